/- Merged: SP SQ SR SS SV ST. -/
import Derived.Test.YtjagmfgjlfkmgaaSLY
import Derived.Test.YtjagmfgjlfkmgaaSLZ
import Derived.Test.YtjagmfgjlfkmgaaSLF
import Derived.Test.YtjagmfgjlfkmgaaSCS
import Derived.Test.YtjagmfgjlfkmgaaA41

/- Least numbers for limits, in plain Lean: two ways to go on from 0 come to the same. No condition. -/
set_option linter.unusedSimpArgs false
set_option linter.unusedVariables false
namespace Go.Proofs.Ytjagmfgjlfkmgaa
open Go

/-- a limit: a level; the variable that is at least it (or none, but a number), less some -/
structure Lm where
  a : Lev
  on : Option Nat
  less : Int
def gv (v : List Int) (i : Nat) : Int := v.getD i 0
def lval (a : Lev) (v : List Int) : Int := a.val (rv v)
theorem rv_gv {v : List Int} (hv : ∀ i, 0 ≤ gv v i) (i : Int) : rv v i = gv v i.toNat := by
  have := hv i.toNat
  unfold rv
  unfold gv at *
  rw [List.getD_eq_getElem?_getD] at *
  cases e : v[i.toNat]? with
  | none => rfl
  | some x => rw [e] at this; exact Int.max_eq_right this
theorem lval_le {a : Lev} {v : List Int} (hv : ∀ i, 0 ≤ gv v i) {x : Int} : lval a v ≤ x ↔ a.n ≤ x ∧ ∀ q, q ∈ a.v → gv v q.1.toNat + q.2 ≤ x := by
  have h := val_le' (x := x + 1) (rv v) a
  unfold lval
  constructor
  · intro hx
    have h2 : ¬ (x + 1 ≤ a.val (rv v)) := by omega
    rw [h] at h2
    refine ⟨by rcases Int.lt_or_le x a.n with h3 | h3; exact absurd (.inl h3) h2; exact h3, fun q hq => ?_⟩
    rcases Int.lt_or_le x (gv v q.1.toNat + q.2) with h3 | h3
    · exact absurd (.inr ⟨q, hq, by rw [rv_gv hv]; omega⟩) h2
    · exact h3
  · rintro ⟨h1, h2⟩
    rcases Int.lt_or_le x (a.val (rv v)) with h3 | h3
    · rcases h.1 h3 with h4 | ⟨q, hq, h4⟩
      · omega
      · rw [rv_gv hv] at h4
        have := h2 q hq
        omega
    · exact h3
theorem lval_mono {a : Lev} {v w : List Int} (hv : ∀ i, 0 ≤ gv v i) (h : ∀ i, gv v i ≤ gv w i) : lval a v ≤ lval a w := by
  have hw : ∀ i, 0 ≤ gv w i := fun i => Int.le_trans (hv i) (h i)
  have := (lval_le hw).1 (Int.le_refl (lval a w))
  refine (lval_le hv).2 ⟨this.1, fun q hq => ?_⟩
  have h1 := this.2 q hq
  have h2 := h q.1.toNat
  omega
theorem gv_set {v : List Int} {y i : Nat} {k : Int} (hy : y < v.length) : gv (v.set y k) i = if i = y then k else gv v i := by
  unfold gv
  rw [List.getD_eq_getElem?_getD, List.getD_eq_getElem?_getD, List.getElem?_set]
  by_cases h : y = i
  · subst h; rw [if_pos rfl, if_pos rfl, if_pos hy]; rfl
  · rw [if_neg h, if_neg (fun e => h e.symm)]
theorem gv_out {v : List Int} {i : Nat} (h : ¬ i < v.length) : gv v i = 0 := by
  unfold gv; rw [List.getD_eq_getElem?_getD, List.getElem?_eq_none (by omega)]; rfl

/-- one limit is looked at; the truth tells whether something was changed -/
def LimS (x : Lm) (s s' : List Int × Bool) : Prop :=
  (s' = s ∧ ∀ y, x.on = some y → lval x.a s.1 ≤ gv s.1 y + x.less) ∨
  (∃ y, x.on = some y ∧ gv s.1 y + x.less < lval x.a s.1 ∧ lval x.a s.1 - x.less ≤ 1000 ∧ s' = (s.1.set y (lval x.a s.1 - x.less), true))
def limP (big : Bool) (s : List Int × Bool) (x : Lm) : Option (List Int × Bool) := match x.on with
  | none => some s
  | some y => if gv s.1 y < lval x.a s.1 - x.less then (if 1000 < lval x.a s.1 - x.less ∨ big = true then none else some (s.1.set y (lval x.a s.1 - x.less), true)) else some s
def limR (s : List Int × Bool) (x : Lm) : Option (List Int × Bool) := match x.on with
  | none => if x.less < lval x.a s.1 then none else some s
  | some y => if gv s.1 y + x.less < lval x.a s.1 then (if 1000 < lval x.a s.1 - x.less then none else some (s.1.set y (lval x.a s.1 - x.less), true)) else some s
def rndsP (big : Bool) : List Lm → List Int × Bool → Option (List Int × Bool)
  | [], s => some s
  | x :: t, s => match limP big s x with
    | none => none
    | some s' => rndsP big t s'
def rndsR : List Lm → List Int × Bool → Option (List Int × Bool)
  | [], s => some s
  | x :: t, s => match limR s x with
    | none => none
    | some s' => rndsR t s'
inductive Steps : List Lm → List Int × Bool → List Int × Bool → Prop where
  | nil (s : List Int × Bool) : Steps [] s s
  | cons {x : Lm} {t : List Lm} {s s' s'' : List Int × Bool} : LimS x s s' → Steps t s' s'' → Steps (x :: t) s s''
theorem limP_some {big : Bool} {s s' : List Int × Bool} {x : Lm} (h : limP big s x = some s') : LimS x s s' ∧ (big = true → s' = s) := by
  unfold limP at h
  cases e : x.on with
  | none => rw [e] at h; cases h; exact ⟨.inl ⟨rfl, fun y hy => by rw [e] at hy; cases hy⟩, fun _ => rfl⟩
  | some y =>
    rw [e] at h
    replace h : (if gv s.1 y < lval x.a s.1 - x.less then (if 1000 < lval x.a s.1 - x.less ∨ big = true then none else some (s.1.set y (lval x.a s.1 - x.less), true)) else some s) = some s' := h
    split at h
    · split at h
      · cases h
      · rename_i h1 h2
        cases h
        exact ⟨.inr ⟨y, e, by omega, by omega, rfl⟩, fun hb => absurd (.inr hb) h2⟩
    · cases h
      exact ⟨.inl ⟨rfl, fun y' hy => by rw [e] at hy; cases hy; omega⟩, fun _ => rfl⟩
theorem limR_some {s s' : List Int × Bool} {x : Lm} (h : limR s x = some s') : LimS x s s' ∧ (x.on = none → lval x.a s.1 ≤ x.less) := by
  unfold limR at h
  cases e : x.on with
  | none =>
    rw [e] at h
    replace h : (if x.less < lval x.a s.1 then none else some s) = some s' := h
    split at h
    · cases h
    · cases h; exact ⟨.inl ⟨rfl, fun y hy => by rw [e] at hy; cases hy⟩, fun _ => by omega⟩
  | some y =>
    rw [e] at h
    replace h : (if gv s.1 y + x.less < lval x.a s.1 then (if 1000 < lval x.a s.1 - x.less then none else some (s.1.set y (lval x.a s.1 - x.less), true)) else some s) = some s' := h
    split at h
    · split at h
      · cases h
      · cases h
        exact ⟨.inr ⟨y, e, by omega, by omega, rfl⟩, fun hb => by cases hb⟩
    · cases h
      exact ⟨.inl ⟨rfl, fun y' hy => by rw [e] at hy; cases hy; omega⟩, fun hb => by cases hb⟩
theorem roundP_some {big : Bool} : ∀ {l : List Lm} {s s' : List Int × Bool}, rndsP big l s = some s' → Steps l s s'
  | [], s, s', h => by cases h; exact .nil _
  | x :: t, s, s', h => by
    unfold rndsP at h
    cases e : limP big s x with
    | none => rw [e] at h; cases h
    | some s1 => rw [e] at h; exact .cons (limP_some e).1 (roundP_some h)
theorem roundR_some : ∀ {l : List Lm} {s s' : List Int × Bool}, rndsR l s = some s' → Steps l s s'
  | [], s, s', h => by cases h; exact .nil _
  | x :: t, s, s', h => by
    unfold rndsR at h
    cases e : limR s x with
    | none => rw [e] at h; cases h
    | some s1 => rw [e] at h; exact .cons (limR_some e).1 (roundR_some h)

/-- limits on n variables -/
def LimOk (n : Nat) (l : List Lm) : Prop := ∀ x, x ∈ l → ∀ y, x.on = some y → y < n
theorem LimOk.tail {n : Nat} {x : Lm} {t : List Lm} (h : LimOk n (x :: t)) : LimOk n t := fun z hz => h z (by simp [hz])
/-- numbers on n variables, not below 0, at most 1000 -/
def Nums (n : Nat) (v : List Int) : Prop := v.length = n ∧ ∀ i, 0 ≤ gv v i ∧ gv v i ≤ 1000
def Feas (n : Nat) (l : List Lm) (v : List Int) : Prop := v.length = n ∧ (∀ i, 0 ≤ gv v i) ∧ ∀ x, x ∈ l → ∀ y, x.on = some y → lval x.a v ≤ gv v y + x.less
def NumsOk (l : List Lm) (v : List Int) : Prop := ∀ x, x ∈ l → x.on = none → lval x.a v ≤ x.less
def LeV (v w : List Int) : Prop := ∀ i, gv v i ≤ gv w i
theorem step_nums {n : Nat} {x : Lm} {s s' : List Int × Bool} (h : LimS x s s') (hx : ∀ y, x.on = some y → y < n) (hs : Nums n s.1) : Nums n s'.1 ∧ LeV s.1 s'.1 := by
  rcases h with ⟨rfl, _⟩ | ⟨y, e, h1, h2, rfl⟩
  · exact ⟨hs, fun _ => Int.le_refl _⟩
  · have hy : y < s.1.length := by rw [hs.1]; exact hx y e
    have h3 := (hs.2 y).1
    have key : ∀ i, gv (s.1.set y (lval x.a s.1 - x.less)) i = if i = y then lval x.a s.1 - x.less else gv s.1 i := fun i => gv_set hy
    refine ⟨⟨by rw [List.length_set]; exact hs.1, fun i => ?_⟩, fun i => ?_⟩
    · show 0 ≤ gv (s.1.set y _) i ∧ gv (s.1.set y _) i ≤ 1000
      rw [key]
      split
      · omega
      · exact hs.2 i
    · show gv s.1 i ≤ gv (s.1.set y _) i
      rw [key]
      split
      · rename_i e2; subst e2; omega
      · exact Int.le_refl _
theorem step_below {n : Nat} {l : List Lm} {x : Lm} {s s' : List Int × Bool} {v : List Int} (h : LimS x s s') (hxl : x ∈ l) (hok : LimOk n l) (hs : Nums n s.1) (hv : Feas n l v) (hb : LeV s.1 v) : LeV s'.1 v := by
  rcases h with ⟨rfl, _⟩ | ⟨y, e, h1, h2, rfl⟩
  · exact hb
  · intro i
    show gv (s.1.set y _) i ≤ gv v i
    rw [gv_set (by rw [hs.1]; exact hok x hxl y e)]
    split
    · rename_i e2; subst e2
      have := hv.2.2 x hxl i e
      have := lval_mono (a := x.a) (fun i => (hs.2 i).1) hb
      omega
    · exact hb i
theorem step_flag {x : Lm} {s s' : List Int × Bool} (h : LimS x s s') : (s.2 = true → s'.2 = true) ∧ (s'.2 = false → s' = s ∧ ∀ y, x.on = some y → lval x.a s.1 ≤ gv s.1 y + x.less) := by
  rcases h with ⟨rfl, h1⟩ | ⟨y, e, h1, h2, rfl⟩
  · exact ⟨id, fun _ => ⟨rfl, h1⟩⟩
  · exact ⟨fun _ => rfl, fun h => by cases h⟩
theorem steps_nums {n : Nat} : ∀ {l : List Lm} {s s' : List Int × Bool}, Steps l s s' → LimOk n l → Nums n s.1 → Nums n s'.1 ∧ LeV s.1 s'.1
  | _, _, _, .nil _, _, hs => ⟨hs, fun _ => Int.le_refl _⟩
  | _, _, _, .cons h1 h2, hok, hs => by
    have a := step_nums h1 (hok _ (by simp)) hs
    have b := steps_nums h2 hok.tail a.1
    exact ⟨b.1, fun i => Int.le_trans (a.2 i) (b.2 i)⟩
theorem steps_below {n : Nat} {L : List Lm} {v : List Int} (hok : LimOk n L) (hv : Feas n L v) : ∀ {l : List Lm} {s s' : List Int × Bool}, Steps l s s' → (∀ x, x ∈ l → x ∈ L) → Nums n s.1 → LeV s.1 v → LeV s'.1 v
  | _, _, _, .nil _, _, _, hb => hb
  | _, _, _, .cons h1 h2, hl, hs, hb => steps_below hok hv h2 (fun x hx => hl x (by simp [hx])) (step_nums h1 (hok _ (hl _ (by simp))) hs).1 (step_below h1 (hl _ (by simp)) hok hs hv hb)
theorem steps_flag : ∀ {l : List Lm} {s s' : List Int × Bool}, Steps l s s' → (s.2 = true → s'.2 = true) ∧ (s'.2 = false → s' = s ∧ ∀ x, x ∈ l → ∀ y, x.on = some y → lval x.a s.1 ≤ gv s.1 y + x.less)
  | _, _, _, .nil _ => ⟨id, fun _ => ⟨rfl, fun x hx => by cases hx⟩⟩
  | _, _, _, .cons h1 h2 => by
    have a := step_flag h1
    have b := steps_flag h2
    refine ⟨fun h => b.1 (a.1 h), fun h => ?_⟩
    obtain ⟨e1, q1⟩ := b.2 h
    rw [e1] at h ⊢
    obtain ⟨e2, q2⟩ := a.2 h
    rw [e2] at q1 ⊢
    refine ⟨rfl, fun x hx => ?_⟩
    rcases List.mem_cons.1 hx with rfl | hx
    · exact q2
    · exact q1 x hx
/-- behind a round each limit holds of what the variables were ahead of it -/
theorem steps_done {n : Nat} : ∀ {l : List Lm} {s s' : List Int × Bool}, Steps l s s' → LimOk n l → Nums n s.1 → ∀ x, x ∈ l → ∀ y, x.on = some y → lval x.a s.1 ≤ gv s'.1 y + x.less
  | _, _, _, .nil _, _, _ => fun x hx => by cases hx
  | _, s, s'', .cons (x := x0) (s' := s1) h1 h2, hok, hs => by
    have a := step_nums h1 (hok _ (by simp)) hs
    have b := steps_nums h2 hok.tail a.1
    intro x hx y hy
    rcases List.mem_cons.1 hx with rfl | hx
    · have h3 := b.2 y
      rcases h1 with ⟨rfl, q⟩ | ⟨y', e, q1, q2, rfl⟩
      · have := q y hy; omega
      · rw [e] at hy; cases hy
        have h4 : gv (s.1.set y (lval x.a s.1 - x.less)) y = lval x.a s.1 - x.less := by rw [gv_set (by rw [hs.1]; exact hok x (by simp) y e), if_pos rfl]
        replace h3 : gv (s.1.set y (lval x.a s.1 - x.less)) y ≤ gv s''.1 y := h3
        omega
    · have := steps_done h2 hok.tail a.1 x hx y hy
      have := lval_mono (a := x.a) (fun i => (hs.2 i).1) a.2
      omega
theorem roundP_none {n : Nat} {L : List Lm} {v : List Int} (hok : LimOk n L) (hv : Feas n L v) (hn : Nums n v) : ∀ {l : List Lm} {s : List Int × Bool}, (∀ x, x ∈ l → x ∈ L) → Nums n s.1 → LeV s.1 v → rndsP false l s ≠ none
  | [], s, _, _, _ => fun h => by cases h
  | x :: t, s, hl, hs, hb => by
    unfold rndsP
    cases e : limP false s x with
    | none =>
      exfalso
      unfold limP at e
      cases eo : x.on with
      | none => rw [eo] at e; cases e
      | some y =>
        rw [eo] at e
        replace e : (if gv s.1 y < lval x.a s.1 - x.less then (if 1000 < lval x.a s.1 - x.less ∨ false = true then none else some (s.1.set y (lval x.a s.1 - x.less), true)) else some s) = none := e
        split at e
        · split at e
          · rename_i h1 h2
            have h3 := hv.2.2 x (hl x (by simp)) y eo
            have h4 := lval_mono (a := x.a) (fun i => (hs.2 i).1) hb
            have h5 := (hn.2 y).2
            rcases h2 with h2 | h2
            · omega
            · cases h2
          · cases e
        · cases e
    | some s1 =>
      have h1 := (limP_some e).1
      exact roundP_none hok hv hn (fun z hz => hl z (by simp [hz])) (step_nums h1 (hok _ (hl _ (by simp))) hs).1 (step_below h1 (hl _ (by simp)) hok hs hv hb)
theorem roundR_none {n : Nat} {L : List Lm} {v : List Int} (hok : LimOk n L) (hv : Feas n L v) (hn : Nums n v) (hno : NumsOk L v) : ∀ {l : List Lm} {s : List Int × Bool}, (∀ x, x ∈ l → x ∈ L) → Nums n s.1 → LeV s.1 v → rndsR l s ≠ none
  | [], s, _, _, _ => fun h => by cases h
  | x :: t, s, hl, hs, hb => by
    unfold rndsR
    have h4 := lval_mono (a := x.a) (fun i => (hs.2 i).1) hb
    cases e : limR s x with
    | none =>
      exfalso
      unfold limR at e
      cases eo : x.on with
      | none =>
        rw [eo] at e
        replace e : (if x.less < lval x.a s.1 then none else some s) = none := e
        split at e
        · have := hno x (hl x (by simp)) eo; omega
        · cases e
      | some y =>
        rw [eo] at e
        replace e : (if gv s.1 y + x.less < lval x.a s.1 then (if 1000 < lval x.a s.1 - x.less then none else some (s.1.set y (lval x.a s.1 - x.less), true)) else some s) = none := e
        split at e
        · split at e
          · have h3 := hv.2.2 x (hl x (by simp)) y eo
            have h5 := (hn.2 y).2
            omega
          · cases e
        · cases e
    | some s1 =>
      have h1 := (limR_some e).1
      exact roundR_none hok hv hn hno (fun z hz => hl z (by simp [hz])) (step_nums h1 (hok _ (hl _ (by simp))) hs).1 (step_below h1 (hl _ (by simp)) hok hs hv hb)
/-- at a solution nothing changes -/
theorem roundP_stay {n : Nat} {L : List Lm} {v : List Int} (hv : Feas n L v) (big b : Bool) : ∀ {l : List Lm}, (∀ x, x ∈ l → x ∈ L) → rndsP big l (v, b) = some (v, b)
  | [], _ => rfl
  | x :: t, hl => by
    have e : limP big (v, b) x = some (v, b) := by
      unfold limP
      cases eo : x.on with
      | none => rfl
      | some y =>
        have := hv.2.2 x (hl x (by simp)) y eo
        show (if gv v y < lval x.a v - x.less then _ else some (v, b)) = _
        rw [if_neg (by omega)]
    unfold rndsP
    rw [e]
    exact roundP_stay hv big b (fun z hz => hl z (by simp [hz]))
theorem limR_num : ∀ {l : List Lm} {s s' : List Int × Bool}, rndsR l s = some s' → s'.2 = false → NumsOk l s.1
  | [], _, _, _, _ => fun x hx => by cases hx
  | x :: t, s, s', h, hf => by
    unfold rndsR at h
    cases e : limR s x with
    | none => rw [e] at h; cases h
    | some s1 =>
      rw [e] at h
      have h1 := limR_some e
      have h2 := (steps_flag (roundR_some h)).2 hf
      have h3 := (step_flag h1.1).2 (by rw [← h2.1]; exact hf)
      have h4 := limR_num h hf
      rw [h3.1] at h4
      intro z hz hzo
      rcases List.mem_cons.1 hz with rfl | hz
      · exact h1.2 hzo
      · exact h4 z hz hzo

/-- the reference's rounds, from such numbers on -/
inductive RunR (l : List Lm) : List Int → Option (List Int) → Prop where
  | err {v : List Int} : rndsR l (v, false) = none → RunR l v none
  | done {v w : List Int} : rndsR l (v, false) = some (w, false) → RunR l v (some w)
  | more {v w : List Int} {r : Option (List Int)} : rndsR l (v, false) = some (w, true) → RunR l w r → RunR l v r
/-- the program's rounds, from one on -/
inductive RunP (n : Nat) (l : List Lm) : Nat → List Int → Option (List Int) → Prop where
  | err {k : Nat} {v : List Int} : rndsP (decide (n < k)) l (v, false) = none → RunP n l k v none
  | done {k : Nat} {v w : List Int} : rndsP (decide (n < k)) l (v, false) = some (w, false) → RunP n l k v (some w)
  | more {k : Nat} {v w : List Int} {r : Option (List Int)} : rndsP (decide (n < k)) l (v, false) = some (w, true) → RunP n l (k + 1) w r → RunP n l k v r
def Least (n : Nat) (l : List Lm) (L : List Int) : Prop := Feas n l L ∧ Nums n L ∧ ∀ v, Feas n l v → LeV L v
theorem runR_some {n : Nat} {l : List Lm} (hok : LimOk n l) {v : List Int} {r : Option (List Int)} (h : RunR l v r) : Nums n v → (∀ w, Feas n l w → LeV v w) → ∀ L, r = some L → Least n l L ∧ NumsOk l L := by
  induction h with
  | err _ => intro _ _ L e; cases e
  | @done v w h =>
    intro hn hb L e
    cases e
    have h1 := roundR_some h
    have h2 := (steps_flag h1).2 rfl
    cases h2.1
    exact ⟨⟨⟨hn.1, fun i => (hn.2 i).1, h2.2⟩, hn, hb⟩, limR_num h rfl⟩
  | @more v w r h _ ih =>
    intro hn hb L e
    have h1 := roundR_some h
    exact ih (steps_nums h1 hok hn).1 (fun z hz => steps_below hok hz h1 (fun _ h => h) hn (hb z hz)) L e
theorem runR_none {n : Nat} {l : List Lm} (hok : LimOk n l) {z : List Int} (hz : Feas n l z) (hzn : Nums n z) (hzo : NumsOk l z) {v : List Int} {r : Option (List Int)} (h : RunR l v r) : Nums n v → LeV v z → r ≠ none := by
  induction h with
  | err h => intro hn hb; exact absurd h (roundR_none hok hz hzn hzo (fun _ h => h) hn hb)
  | done _ => intro _ _ e; cases e
  | more h _ ih =>
    intro hn hb
    have h1 := roundR_some h
    exact ih (steps_nums h1 hok hn).1 (steps_below hok hz h1 (fun _ h => h) hn hb)
theorem runP_some {n : Nat} {l : List Lm} (hok : LimOk n l) {k : Nat} {v : List Int} {r : Option (List Int)} (h : RunP n l k v r) : Nums n v → ∀ L, r = some L → Feas n l L ∧ Nums n L := by
  induction h with
  | err _ => intro _ L e; cases e
  | @done k v w h =>
    intro hn L e
    cases e
    have h1 := roundP_some h
    have h2 := (steps_flag h1).2 rfl
    cases h2.1
    exact ⟨⟨hn.1, fun i => (hn.2 i).1, h2.2⟩, hn⟩
  | @more k v w r h _ ih =>
    intro hn L e
    exact ih (steps_nums (roundP_some h) hok hn).1 L e

/-- how many variables have come to their least numbers -/
def cntE (n : Nat) (v L : List Int) : Nat := (List.range n).countP fun i => decide (gv v i = gv L i)
theorem countP_lt {α : Type} {p q : α → Bool} : ∀ {l : List α}, (∀ x, x ∈ l → p x = true → q x = true) → (∃ x, x ∈ l ∧ p x = false ∧ q x = true) → l.countP p < l.countP q
  | [], _, ⟨x, hx, _⟩ => by cases hx
  | a :: t, h, ⟨x, hx, h1, h2⟩ => by
    rw [List.countP_cons, List.countP_cons]
    rcases List.mem_cons.1 hx with rfl | hx
    · rw [h1, h2]
      have := List.countP_mono_left (p := p) (q := q) (l := t) (fun y hy => h y (by simp [hy]))
      simp only [Bool.false_eq_true, if_false, if_true]
      omega
    · have := countP_lt (l := t) (fun y hy => h y (by simp [hy])) ⟨x, hx, h1, h2⟩
      have h3 := h a (by simp)
      cases hp : p a
      · simp only [Bool.false_eq_true, if_false]; split <;> omega
      · rw [h3 hp]; simp only [if_true]; omega
theorem cntE_all {n : Nat} {v L : List Int} (hv : v.length = n) (hL : L.length = n) (h : n ≤ cntE n v L) : v = L := by
  have h1 : cntE n v L = (List.range n).length := Nat.le_antisymm List.countP_le_length (by rw [List.length_range]; exact h)
  have h2 := List.countP_eq_length.1 h1
  apply List.ext_getElem (by rw [hv, hL])
  intro i hi hi2
  have := of_decide_eq_true (h2 i (List.mem_range.2 (by omega)))
  unfold gv at this
  rw [List.getD_eq_getElem?_getD, List.getD_eq_getElem?_getD, List.getElem?_eq_getElem hi, List.getElem?_eq_getElem hi2] at this
  exact this
/-- a round brings one more variable to its least number -/
theorem round_gain {n : Nat} {l : List Lm} (hok : LimOk n l) {L : List Int} (hL : Least n l L) {v w : List Int} {b b' : Bool} (hn : Nums n v) (hb : LeV v L) (hs : Steps l (v, b) (w, b')) (hne : v ≠ L) : cntE n v L < cntE n w L := by
  have hw := steps_nums hs hok hn
  have hwL := steps_below hok hL.1 hs (fun _ h => h) hn hb
  have hdone := steps_done hs hok hn
  replace hw : Nums n w ∧ LeV v w := hw
  replace hwL : LeV w L := hwL
  replace hdone : ∀ x, x ∈ l → ∀ y, x.on = some y → lval x.a v ≤ gv w y + x.less := hdone
  apply countP_lt
  · intro i _ hi
    have := of_decide_eq_true hi
    have h1 := hw.2 i
    have h2 := hwL i
    exact decide_eq_true (by omega)
  · -- otherwise all numbers that are too small may be one less
    by_cases hex : ∃ i, i < n ∧ gv v i < gv L i ∧ gv w i = gv L i
    · obtain ⟨i, hi, h1, h2⟩ := hex
      exact ⟨i, List.mem_range.2 hi, decide_eq_false (by omega), decide_eq_true h2⟩
    · exfalso
      have hlt : ∀ i, i < n → gv v i < gv L i → gv w i < gv L i := fun i hi h1 => by
        have h2 := hwL i
        rcases Int.lt_or_eq_of_le h2 with h3 | h3
        · exact h3
        · exact absurd ⟨i, hi, h1, h3⟩ hex
      have hin : ∀ i, gv v i < gv L i → i < n := fun i h1 => by
        rcases Nat.lt_or_ge i n with h2 | h2
        · exact h2
        · rw [gv_out (by rw [hn.1]; omega), gv_out (by rw [hL.2.1.1]; omega)] at h1; omega
      let M : List Int := (List.range n).map fun i => if gv v i < gv L i then gv L i - 1 else gv L i
      have hM : ∀ i, gv M i = if gv v i < gv L i then gv L i - 1 else gv L i := fun i => by
        by_cases hi : i < n
        · show ((List.range n).map _).getD i 0 = _
          rw [List.getD_eq_getElem?_getD, List.getElem?_map, List.getElem?_range hi]; rfl
        · rw [gv_out (v := M) (by show ¬ i < ((List.range n).map _).length; rw [List.length_map, List.length_range]; exact hi), gv_out (v := L) (by rw [hL.2.1.1]; exact hi), if_neg (fun h => hi (by have := hin i; rw [gv_out (v := L) (by rw [hL.2.1.1]; exact hi)] at this; exact this h))]
      have hM0 : ∀ i, 0 ≤ gv M i := fun i => by
        rw [hM]
        have h1 := (hn.2 i).1
        have h2 := (hL.2.1.2 i).1
        split <;> omega
      have hML : LeV M L := fun i => by rw [hM]; split <;> omega
      have hf : Feas n l M := by
        refine ⟨by show ((List.range n).map _).length = n; rw [List.length_map, List.length_range], hM0, fun x hx y hy => ?_⟩
        have h1 := hL.1.2.2 x hx y hy
        rw [hM]
        split
        · rename_i hU
          have h2 := hdone x hx y hy
          have h3 := hlt y (hok x hx y hy) hU
          refine (lval_le hM0).2 ?_
          have h4 := (lval_le (fun i => (hn.2 i).1)).1 (Int.le_refl (lval x.a v))
          have h5 := (lval_le hL.1.2.1).1 (Int.le_refl (lval x.a L))
          refine ⟨by omega, fun q hq => ?_⟩
          have h6 := h4.2 q hq
          have h7 := h5.2 q hq
          have h8 := hb q.1.toNat
          rw [hM]
          split <;> omega
        · have := lval_mono (a := x.a) hM0 hML
          omega
      have hle := hL.2.2 M hf
      apply hne
      apply List.ext_getElem (by rw [hn.1, hL.2.1.1])
      intro i hi hi2
      have h1 := hle i
      rw [hM] at h1
      have h2 := hb i
      have h3 : gv v i = gv L i := by
        split at h1 <;> omega
      unfold gv at h3
      rw [List.getD_eq_getElem?_getD, List.getD_eq_getElem?_getD, List.getElem?_eq_getElem hi, List.getElem?_eq_getElem hi2] at h3
      exact h3
theorem runP_least {n : Nat} {l : List Lm} (hok : LimOk n l) {L : List Int} (hL : Least n l L) {k : Nat} {v : List Int} {r : Option (List Int)} (h : RunP n l k v r) : Nums n v → LeV v L → k ≤ cntE n v L ∨ v = L → r = some L := by
  induction h with
  | @err k v h =>
    intro hn hb hc
    exfalso
    by_cases hk : n < k
    · have hv : v = L := by
        rcases hc with hc | hc
        · exact cntE_all hn.1 hL.2.1.1 (by omega)
        · exact hc
      subst hv
      rw [roundP_stay hL.1 _ _ (fun _ h => h)] at h
      cases h
    · rw [decide_eq_false hk] at h
      exact roundP_none hok hL.1 hL.2.1 (fun _ h => h) hn hb h
  | @done k v w h =>
    intro hn hb hc
    have h1 := roundP_some h
    have h2 := (steps_flag h1).2 rfl
    cases h2.1
    have hf : Feas n l v := ⟨hn.1, fun i => (hn.2 i).1, h2.2⟩
    have h3 := hL.2.2 v hf
    congr 1
    apply List.ext_getElem (by rw [hn.1, hL.2.1.1])
    intro i hi hi2
    have h4 := h3 i
    have h5 := hb i
    have h6 : gv v i = gv L i := by omega
    unfold gv at h6
    rw [List.getD_eq_getElem?_getD, List.getD_eq_getElem?_getD, List.getElem?_eq_getElem hi, List.getElem?_eq_getElem hi2] at h6
    exact h6
  | @more k v w r h _ ih =>
    intro hn hb hc
    have h1 := roundP_some h
    by_cases hv : v = L
    · exfalso
      subst hv
      rw [roundP_stay hL.1 _ _ (fun _ h => h)] at h
      cases h
    · refine ih (steps_nums h1 hok hn).1 (steps_below hok hL.1 h1 (fun _ h => h) hn hb) (.inl ?_)
      have h2 := round_gain hok hL hn hb h1 hv
      rcases hc with hc | hc
      · omega
      · exact absurd hc hv
/-- both ways come to the same -/
theorem runs_same {n : Nat} {l : List Lm} (hok : LimOk n l) {r p : Option (List Int)} (hr : RunR l (List.replicate n 0) r) (hp : RunP n l 0 (List.replicate n 0) p) :
    (∀ L, r = some L → p = some L ∧ NumsOk l L) ∧ (r = none → ∀ v, p = some v → ¬ NumsOk l v) := by
  have h0 : ∀ i, gv (List.replicate n (0 : Int)) i = 0 := fun i => by
    unfold gv
    rw [List.getD_eq_getElem?_getD, List.getElem?_replicate]
    split <;> rfl
  have hn : Nums n (List.replicate n (0 : Int)) := ⟨List.length_replicate, fun i => by rw [h0]; omega⟩
  have hb : ∀ w, Feas n l w → LeV (List.replicate n (0 : Int)) w := fun w hw i => by rw [h0]; exact hw.2.1 i
  refine ⟨fun L e => ?_, fun e v hv hno => ?_⟩
  · obtain ⟨h1, h2⟩ := runR_some hok hr hn hb L e
    exact ⟨runP_least hok h1 hp hn (hb _ h1.1) (.inl (Nat.zero_le _)), h2⟩
  · obtain ⟨h1, h2⟩ := runP_some hok hp hn v hv
    exact runR_none hok h1 h2 hno hr hn (hb _ h1) e
end Go.Proofs.Ytjagmfgjlfkmgaa

/- The reference's least numbers for limits. No condition but lengths. -/
namespace Go.Proofs.Ytjagmfgjlfkmgaa
open Go

/-- a limit as it is handed in -/
structure SLim where
  a : SLev
  b : SLev
def encM (x : SLim) : D := .agg [.int .i64 x.a.n, slD 2 encV x.a.vs, .int .i64 x.b.n, slD 2 encV x.b.vs]
def limSize (x : SLim) : Prop := x.a.vs.el.length ≤ 1000 ∧ x.b.vs.el.length ≤ 1000
theorem bnd_le {l : Lev} {x : Int} : l.bnd ≤ x ↔ 0 ≤ x ∧ ∀ p, p ∈ l.v → p.1 + 1 ≤ x := by
  unfold Lev.bnd
  have key : ∀ (v : List LV) (m : Int), v.foldl (fun m p => max m (p.1 + 1)) m ≤ x ↔ m ≤ x ∧ ∀ p, p ∈ v → p.1 + 1 ≤ x := by
    intro v
    induction v with
    | nil => intro m; simp
    | cons p t ih =>
      intro m
      rw [List.foldl_cons, ih]
      simp only [List.mem_cons, forall_eq_or_imp]
      rw [← and_assoc]
      refine and_congr_left fun _ => ?_
      omega
  exact key l.v 0
theorem bnd_norm (l : Lev) : l.norm.bnd = l.bnd := by
  have h : ∀ x, l.norm.bnd ≤ x ↔ l.bnd ≤ x := fun x => by
    rw [bnd_le, bnd_le]
    refine and_congr_right fun _ => ⟨fun h p hp => ?_, fun h p hp => h p ((nfL_nf l.v).sub p hp)⟩
    obtain ⟨q, hq, e, _⟩ := (nfL_nf l.v).cov p hp
    have e : q.1 = p.1 := e
    have := h q hq
    omega
  have h1 := (h _).1 (Int.le_refl _)
  have h2 := (h _).2 (Int.le_refl _)
  omega
theorem bound_norm {l : Lev} (h : l.right = true) : l.norm.bound = l.bnd := by
  unfold Lev.bound
  rw [if_pos (right_norm h), bnd_norm]

def chk1 (a : Int) (x : SLim) : Bool := (x.a.lev.right && x.b.lev.right) && (decide (x.a.lev.bnd ≤ a) && decide (x.b.lev.bnd ≤ a))
def chk2 (x : SLim) : Bool := decide (x.b.lev.norm.v.length = 0 ∨ (x.b.lev.norm.v.length = 1 ∧ x.b.lev.norm.n = 0))
/-- a limit as the rounds take it -/
def lm (x : SLim) : Lm := match x.b.lev.norm.v with
  | [] => ⟨x.a.lev.norm, none, x.b.lev.norm.n⟩
  | p :: _ => ⟨x.a.lev.norm, some p.1.toNat, p.2⟩
/-- what is told: numbers, or why there are none -/
def limD : Option (List Int) → D
  | none => .tup [.nils, .int .i64 52]
  | some v => .tup [.sl 1 (v.map encN) [] false, .int .i64 0]

end Go.Proofs.Ytjagmfgjlfkmgaa

/- The reference's rounds. No condition but lengths. -/
namespace Go.Proofs.Ytjagmfgjlfkmgaa
open Go

theorem row_get {v : List Int} {k : Nat} (hk : k < v.length) : (v.map encN).getD k .junk = .int .i64 (gv v k) := by
  unfold gv
  rw [List.getD_eq_getElem?_getD, List.getD_eq_getElem?_getD, List.getElem?_map, List.getElem?_eq_getElem hk]
  rfl
theorem row_put {v : List Int} {n r k : Nat} {h : Hps} {x : Int} (hk : k < v.length) : storeR false 1 r k 0 (.int .i64 x) n h (.row 1 (v.map encN)) = .ok .junk n (setO h r (.row 1 ((v.set k x).map encN))) := by
  show storeS r 1 k (v.map encN) n h (setS false 1 0 (nth (v.map encN) k) (.int .i64 x)) = _
  rw [nth_eq, row_get hk]
  show ifR (Nat.blt k (lenL (v.map encN))) (.ok .junk n (setO h r (.row 1 (put (v.map encN) k (.int .i64 x))))) = _
  rw [lenL_eq, List.length_map, blt_iff, decide_eq_true hk, put_eq, List.map_set]
  rfl
theorem iaddr_row {n k r l i : Nat} {h : Hps} {f : Bool} (hi : i < l) : iaddrD n h k (.ms k r 0 l f) i = .ok (.ptr r i 0) n h := by
  show ifR (Bool.and (Nat.blt i l) (Nat.beq k k)) (.ok (.ptr r (0 + i) 0) n h) = _
  rw [blt_iff, decide_eq_true hi, Nat.beq_refl, Nat.zero_add]; rfl
theorem row_low (v : List Int) (m : Nat) : lowO m (.row 1 (v.map encN)) := lowO_row (fun d hd => by
  obtain ⟨i, _, rfl⟩ := List.mem_map.1 hd
  exact low_flat rfl)
theorem row_si {n r l : Nat} {h : Hps} {v : List Int} {f : Bool} (hg : getO h r = .row 1 (v.map encN)) (hl : v.length = l) (hn : r < n) : Si n h (.ms 1 r 0 l f) v (fun i => .ptr r i 0) := by
  refine ⟨fun m h' => by rw [hl]; rfl, fun m h' i hi => iaddr_row (by omega), fun h' hq m i hi => ?_, fun m h' => rfl⟩
  show loadR false 1 i 0 m h' (getO h' r) = _
  rw [hq r hn, hg, loadR_row, row_get hi]
  unfold gv
  rw [List.getD_eq_getElem?_getD, List.getElem?_eq_getElem hi]
  rfl
theorem mk_row {n na : Nat} {h : Hps} (hn : na ≤ 1000) : natR (mkslD n h 1 8 (.int .i64 0)) (.int .i64 (na : Int)) = .ok (.ms 1 n 0 na false) n ((n, .row 1 ((List.replicate na (0 : Int)).map encN)) :: h) := by
  rw [natR_of]
  show ifR (Nat.ble (na * 8) most) (.ok (.ms 1 n 0 na false) n ((n, .row 1 (repL (.int .i64 0) na)) :: h)) = _
  rw [ble_iff, repL_eq, List.map_replicate]
  unfold most
  rw [decide_eq_true (by omega)]; rfl
theorem nums_low {n : Nat} {v : List Int} (h : Nums n v) : ∀ x, x ∈ v → x ≤ 1000 := fun x hx => by
  obtain ⟨i, hi, rfl⟩ := List.mem_iff_getElem.1 hx
  have := (h.2 i).2
  unfold gv at this
  rw [List.getD_eq_getElem?_getD, List.getElem?_eq_getElem hi] at this
  exact this
/-- how far numbers are below the greatest -/
def mu (v : List Int) : Nat := (v.map fun x => (1000 - x).toNat).sum
theorem mu_set : ∀ (v : List Int) (y : Nat) (k : Int), y < v.length → mu (v.set y k) + (1000 - gv v y).toNat = mu v + (1000 - k).toNat
  | [], _, _, h => by cases h
  | a :: t, 0, k, _ => by
    show ((1000 - k).toNat + mu t) + (1000 - a).toNat = ((1000 - a).toNat + mu t) + (1000 - k).toNat
    omega
  | a :: t, y + 1, k, h => by
    have := mu_set t y k (by simpa using h)
    show ((1000 - a).toNat + mu (t.set y k)) + (1000 - gv t y).toNat = ((1000 - a).toNat + mu t) + (1000 - k).toNat
    omega
theorem step_mu {n : Nat} {x : Lm} {s s' : List Int × Bool} (h : LimS x s s') (hx : ∀ y, x.on = some y → y < n) (hs : Nums n s.1) : mu s'.1 ≤ mu s.1 ∧ (s'.2 = true → s.2 = true ∨ mu s'.1 < mu s.1) := by
  rcases h with ⟨rfl, _⟩ | ⟨y, e, h1, h2, rfl⟩
  · exact ⟨Nat.le_refl _, .inl⟩
  · have h3 := mu_set s.1 y (lval x.a s.1 - x.less) (by rw [hs.1]; exact hx y e)
    have h4 := hs.2 y
    replace h3 : mu (s.1.set y (lval x.a s.1 - x.less)) + _ = _ := h3
    refine ⟨?_, fun _ => .inr ?_⟩
    · show mu (s.1.set y (lval x.a s.1 - x.less)) ≤ _
      omega
    · show mu (s.1.set y (lval x.a s.1 - x.less)) < _
      omega
theorem steps_mu {n : Nat} : ∀ {l : List Lm} {s s' : List Int × Bool}, Steps l s s' → LimOk n l → Nums n s.1 → mu s'.1 ≤ mu s.1 ∧ (s'.2 = true → s.2 = true ∨ mu s'.1 < mu s.1)
  | _, _, _, .nil _, _, _ => ⟨Nat.le_refl _, .inl⟩
  | _, _, _, .cons h1 h2, hok, hs => by
    have a := step_mu h1 (hok _ (by simp)) hs
    have b := steps_mu h2 hok.tail (step_nums h1 (hok _ (by simp)) hs).1
    refine ⟨by omega, fun h => ?_⟩
    rcases b.2 h with h3 | h3
    · rcases a.2 h3 with h4 | h4
      · exact .inl h4
      · right; omega
    · right; omega
/-- limits that were looked at -/
def Seen (n : Nat) (s : List SLim) : Prop := ∀ x, x ∈ s → x.a.lev.right = true ∧ x.b.lev.right = true ∧ x.b.lev.bnd ≤ n ∧ chk2 x = true
theorem seen_ok {n : Nat} {s : List SLim} (h : Seen n s) : LimOk n (s.map lm) := by
  intro z hz y hy
  obtain ⟨x, hx, rfl⟩ := List.mem_map.1 hz
  obtain ⟨_, h2, h3, _⟩ := h x hx
  unfold lm at hy
  cases e : x.b.lev.norm.v with
  | nil => rw [e] at hy; cases hy
  | cons p t =>
    rw [e] at hy
    cases hy
    have h4 := (bnd_le (l := x.b.lev) (x := n)).1 h3
    have hp : p ∈ x.b.lev.norm.v := by rw [e]; simp
    have h5 := h4.2 p ((nfL_nf x.b.lev.v).sub p hp)
    have h6 := ((right_iff.1 (right_norm h2)).2.2 p hp).1.1
    show p.1.toNat < n
    omega

end Go.Proofs.Ytjagmfgjlfkmgaa

/- The program's Eval of any row of numbers. No condition but that the values are at most a million. -/
namespace Go.Proofs.Ytjagmfgjlfkmgaa
open Go

set_option maxHeartbeats 4000000 in
theorem lvEvalS (n : Nat) (h : Hps) (hg : ∀ k, n ≤ k → GoodAt k h) (N : Int) (s : Sl LV) (hs : s.el.length < 1000000000000) (d : D) (v : List Int) (ad : Nat → D) (S : Si n h d v ad) (hv : ∀ x, x ∈ v → x ≤ 1000000) (hl : v.length < 1000000000000) :
    callFn (LX (cFk kS Go.Proofs.Try.prog)) n h [(D.agg [.int .i64 (N), slD 2 encV (s)]), d] (cFk kS Go.Proofs.Try.prog 49) = .ok (.int .i64 (Lev.eval ⟨N, s.el⟩ v)) n h := by
  have hgn := hg n (Nat.le_refl _)
  have H0 : Hp n h (n + 1) ((n, (Ob.row 2 [.agg [.int .i64 (N), slD 2 encV (s)]])) :: h) := (Hp.start hg).box (r := n) (m := n + 1) (Nat.le_refl _) (by omega) (flatL ⟨N, s⟩)
  have c0 : ∀ m, n + 1 ≤ m → callFn (LX (cFk kS Go.Proofs.Try.prog)) m ((n, (Ob.row 2 [.agg [.int .i64 (N), slD 2 encV (s)]])) :: h) [(D.agg [.int .i64 (N), slD 2 encV (s)])] (cFk kS Go.Proofs.Try.prog 68) = .ok (.bool (Lev.right ⟨N, s.el⟩)) m ((n, (Ob.row 2 [.agg [.int .i64 (N), slD 2 encV (s)]])) :: h) := fun m hm => lvRight m _ (H0.good' hm) N _ _ _ (svV s) hs
  have s1 := S.len
  have s2 := S.idx
  have s3 := S.okD
  unfold Lev.eval
  cases hb : Lev.right ⟨N, s.el⟩ with
  | false =>
    rw [hb] at c0
    rw [if_neg (by decide)]
    rw [f49_eq]; unfold c49; rw [callFn_eq (by rfl)]
    simp (disch := first | assumption | omega | (simp (disch := first | assumption | omega) only [sB, Nat.reduceAdd, Nat.reduceLT, Nat.reduceLeDiff, Nat.reduceEqDiff, Nat.reduceMul, ↓reduceIte]; done) | fail) only [sA, ↓reduceIte, Nat.reduceLT, Nat.reduceEqDiff, Nat.reduceAdd, Nat.reduceLeDiff, c0, s3]
  | true =>
    rw [hb] at c0
    rw [if_pos rfl]
    obtain ⟨hN, h64, hV⟩ := right_iff.1 hb
    replace h64 : s.el.length ≤ 64 := h64
    replace hN : 0 ≤ N ∧ N ≤ 1000 := hN
    replace hV : ∀ p, p ∈ s.el → (0 ≤ p.1 ∧ p.1 ≤ 1000) ∧ 0 ≤ p.2 ∧ p.2 ≤ 1000 := hV
    rw [f49_eq]; unfold c49; rw [callFn_eq (by rfl)]
    simp (disch := first | assumption | omega | (simp (disch := first | assumption | omega) only [sB, Nat.reduceAdd, Nat.reduceLT, Nat.reduceLeDiff, Nat.reduceEqDiff, Nat.reduceMul, ↓reduceIte]; done) | fail) only [sA, ↓reduceIte, Nat.reduceLT, Nat.reduceEqDiff, Nat.reduceAdd, Nat.reduceLeDiff, c0, s3]
    generalize hr : LX (cFk kS Go.Proofs.Try.prog) (.loop l49_0) _ _ _ = r
    obtain ⟨x, e2, n2, h2, rfl, rfl, H2, g5⟩ := loop_up hr s.el.length
      (fun i e n' h' => Hp n h n' h' ∧ get (po 1) e = d ∧ get (po 5) e = .int .i64 (Lev.val ⟨N, s.el.take i⟩ (rv v)) ∧ get (po 15) e = slD 2 encV s ∧ get (po 16) e = .int .i64 (s.el.length : Nat) ∧ get (po 17) e = .int .i64 (i : Nat))
      (fun x e n' h' => x = .exit 0 ∧ Hp n h n' h' ∧ get (po 5) e = .int .i64 (Lev.val ⟨N, s.el⟩ (rv v)))
      (by
        rintro e n' h' ⟨H, g1, g5, g15, g16, g17⟩
        rw [List.take_length] at g5
        unfold l49_0
        simp (disch := first | assumption | omega | (simp (disch := first | assumption | omega) only [sB, Nat.reduceAdd, Nat.reduceLT, Nat.reduceLeDiff, Nat.reduceEqDiff, Nat.reduceMul, ↓reduceIte]; done) | fail) only [sA, ↓reduceIte, Nat.reduceLT, Nat.reduceEqDiff, Nat.reduceAdd, Nat.reduceLeDiff, g16, g17]
        exact ⟨_, _, _, _, rfl, by simp, rfl, H.mono (by omega), by simp (disch := first | assumption | omega | (simp (disch := first | assumption | omega) only [sB, Nat.reduceAdd, Nat.reduceLT, Nat.reduceLeDiff, Nat.reduceEqDiff, Nat.reduceMul, ↓reduceIte]; done) | fail) only [sA, ↓reduceIte, Nat.reduceLT, Nat.reduceEqDiff, Nat.reduceAdd, Nat.reduceLeDiff, g5]⟩)
      (by
        rintro i e n' h' hi ⟨H, g1, g5, g15, g16, g17⟩
        have hn := H.le
        have hp := hV s.el[i] (List.getElem_mem hi)
        have hsn := val_snoc N (s.el.take i) s.el[i] (rv v)
        rw [← take_snoc hi] at hsn
        generalize hW : s.el[i] = W at hp hsn
        obtain ⟨va, vb⟩ := W
        obtain ⟨vn, rfl⟩ : ∃ vn : Nat, va = (vn : Int) := Int.eq_ofNat_of_zero_le hp.1.1
        replace hsn : Lev.val ⟨N, s.el.take (i + 1)⟩ (rv v) = max (Lev.val ⟨N, s.el.take i⟩ (rv v)) (rv v (vn : Int) + vb) := hsn
        replace hp : (0 ≤ (vn : Int) ∧ (vn : Int) ≤ 1000) ∧ 0 ≤ vb ∧ vb ≤ 1000 := hp
        generalize Lev.val ⟨N, s.el.take i⟩ (rv v) = A at g5 hsn
        have s4 := S.ld ((n' + 3, .row 2 [.agg [.int .i64 (vn : Int), .int .i64 vb]]) :: h') (fun q hq => by rw [getO_tl (by omega), H.get hq])
        unfold l49_0
        by_cases a1 : vn < v.length
        · have hx := hv v[vn] (List.getElem_mem a1)
          rw [rv_in a1] at hsn
          have hm1 : 0 ≤ max 0 v[vn] := Int.le_max_left _ _
          have hm2 : max 0 v[vn] ≤ 1000000 := by omega
          simp (disch := first | assumption | omega | (simp (disch := first | assumption | omega) only [sB, Nat.reduceAdd, Nat.reduceLT, Nat.reduceLeDiff, Nat.reduceEqDiff, Nat.reduceMul, ↓reduceIte]; done) | fail) only [sA, ↓reduceIte, Nat.reduceLT, Nat.reduceEqDiff, Nat.reduceAdd, Nat.reduceLeDiff, g1, g5, g15, g16, g17, hW, encV, s1, s2, s3, s4]
          exact ⟨_, _, _, _, rfl, .inl ⟨rfl, (H.box (r := n' + 3) (m := n' + 4) (by omega) (by omega) rfl).mono (by omega), by simp (disch := first | assumption | omega | (simp (disch := first | assumption | omega) only [sB, Nat.reduceAdd, Nat.reduceLT, Nat.reduceLeDiff, Nat.reduceEqDiff, Nat.reduceMul, ↓reduceIte]; done) | fail) only [sA, ↓reduceIte, Nat.reduceLT, Nat.reduceEqDiff, Nat.reduceAdd, Nat.reduceLeDiff, g1], by rw [hsn]; simp (disch := first | assumption | omega | (simp (disch := first | assumption | omega) only [sB, Nat.reduceAdd, Nat.reduceLT, Nat.reduceLeDiff, Nat.reduceEqDiff, Nat.reduceMul, ↓reduceIte]; done) | fail) only [sA, ↓reduceIte, Nat.reduceLT, Nat.reduceEqDiff, Nat.reduceAdd, Nat.reduceLeDiff], by simp (disch := first | assumption | omega | (simp (disch := first | assumption | omega) only [sB, Nat.reduceAdd, Nat.reduceLT, Nat.reduceLeDiff, Nat.reduceEqDiff, Nat.reduceMul, ↓reduceIte]; done) | fail) only [sA, ↓reduceIte, Nat.reduceLT, Nat.reduceEqDiff, Nat.reduceAdd, Nat.reduceLeDiff, g15], by simp (disch := first | assumption | omega | (simp (disch := first | assumption | omega) only [sB, Nat.reduceAdd, Nat.reduceLT, Nat.reduceLeDiff, Nat.reduceEqDiff, Nat.reduceMul, ↓reduceIte]; done) | fail) only [sA, ↓reduceIte, Nat.reduceLT, Nat.reduceEqDiff, Nat.reduceAdd, Nat.reduceLeDiff, g16], by simp (disch := first | assumption | omega | (simp (disch := first | assumption | omega) only [sB, Nat.reduceAdd, Nat.reduceLT, Nat.reduceLeDiff, Nat.reduceEqDiff, Nat.reduceMul, ↓reduceIte]; done) | fail) only [sA, ↓reduceIte, Nat.reduceLT, Nat.reduceEqDiff, Nat.reduceAdd, Nat.reduceLeDiff]⟩⟩
        · rw [rv_out a1] at hsn
          simp (disch := first | assumption | omega | (simp (disch := first | assumption | omega) only [sB, Nat.reduceAdd, Nat.reduceLT, Nat.reduceLeDiff, Nat.reduceEqDiff, Nat.reduceMul, ↓reduceIte]; done) | fail) only [sA, ↓reduceIte, Nat.reduceLT, Nat.reduceEqDiff, Nat.reduceAdd, Nat.reduceLeDiff, g1, g5, g15, g16, g17, hW, encV, s1, s3]
          exact ⟨_, _, _, _, rfl, .inl ⟨rfl, (H.box (r := n' + 3) (m := n' + 4) (by omega) (by omega) rfl).mono (by omega), by simp (disch := first | assumption | omega | (simp (disch := first | assumption | omega) only [sB, Nat.reduceAdd, Nat.reduceLT, Nat.reduceLeDiff, Nat.reduceEqDiff, Nat.reduceMul, ↓reduceIte]; done) | fail) only [sA, ↓reduceIte, Nat.reduceLT, Nat.reduceEqDiff, Nat.reduceAdd, Nat.reduceLeDiff, g1], by rw [hsn]; simp (disch := first | assumption | omega | (simp (disch := first | assumption | omega) only [sB, Nat.reduceAdd, Nat.reduceLT, Nat.reduceLeDiff, Nat.reduceEqDiff, Nat.reduceMul, ↓reduceIte]; done) | fail) only [sA, ↓reduceIte, Nat.reduceLT, Nat.reduceEqDiff, Nat.reduceAdd, Nat.reduceLeDiff], by simp (disch := first | assumption | omega | (simp (disch := first | assumption | omega) only [sB, Nat.reduceAdd, Nat.reduceLT, Nat.reduceLeDiff, Nat.reduceEqDiff, Nat.reduceMul, ↓reduceIte]; done) | fail) only [sA, ↓reduceIte, Nat.reduceLT, Nat.reduceEqDiff, Nat.reduceAdd, Nat.reduceLeDiff, g15], by simp (disch := first | assumption | omega | (simp (disch := first | assumption | omega) only [sB, Nat.reduceAdd, Nat.reduceLT, Nat.reduceLeDiff, Nat.reduceEqDiff, Nat.reduceMul, ↓reduceIte]; done) | fail) only [sA, ↓reduceIte, Nat.reduceLT, Nat.reduceEqDiff, Nat.reduceAdd, Nat.reduceLeDiff, g16], by simp (disch := first | assumption | omega | (simp (disch := first | assumption | omega) only [sB, Nat.reduceAdd, Nat.reduceLT, Nat.reduceLeDiff, Nat.reduceEqDiff, Nat.reduceMul, ↓reduceIte]; done) | fail) only [sA, ↓reduceIte, Nat.reduceLT, Nat.reduceEqDiff, Nat.reduceAdd, Nat.reduceLeDiff]⟩⟩)
      ⟨H0.mono (by omega), by simp (disch := first | assumption | omega | (simp (disch := first | assumption | omega) only [sB, Nat.reduceAdd, Nat.reduceLT, Nat.reduceLeDiff, Nat.reduceEqDiff, Nat.reduceMul, ↓reduceIte]; done) | fail) only [sA, ↓reduceIte, Nat.reduceLT, Nat.reduceEqDiff, Nat.reduceAdd, Nat.reduceLeDiff], by simp (disch := first | assumption | omega | (simp (disch := first | assumption | omega) only [sB, Nat.reduceAdd, Nat.reduceLT, Nat.reduceLeDiff, Nat.reduceEqDiff, Nat.reduceMul, ↓reduceIte]; done) | fail) only [sA, ↓reduceIte, Nat.reduceLT, Nat.reduceEqDiff, Nat.reduceAdd, Nat.reduceLeDiff]; rfl, by simp (disch := first | assumption | omega | (simp (disch := first | assumption | omega) only [sB, Nat.reduceAdd, Nat.reduceLT, Nat.reduceLeDiff, Nat.reduceEqDiff, Nat.reduceMul, ↓reduceIte]; done) | fail) only [sA, ↓reduceIte, Nat.reduceLT, Nat.reduceEqDiff, Nat.reduceAdd, Nat.reduceLeDiff], by simp (disch := first | assumption | omega | (simp (disch := first | assumption | omega) only [sB, Nat.reduceAdd, Nat.reduceLT, Nat.reduceLeDiff, Nat.reduceEqDiff, Nat.reduceMul, ↓reduceIte]; done) | fail) only [sA, ↓reduceIte, Nat.reduceLT, Nat.reduceEqDiff, Nat.reduceAdd, Nat.reduceLeDiff], by simp (disch := first | assumption | omega | (simp (disch := first | assumption | omega) only [sB, Nat.reduceAdd, Nat.reduceLT, Nat.reduceLeDiff, Nat.reduceEqDiff, Nat.reduceMul, ↓reduceIte]; done) | fail) only [sA, ↓reduceIte, Nat.reduceLT, Nat.reduceEqDiff, Nat.reduceAdd, Nat.reduceLeDiff]⟩
    simp (disch := first | assumption | omega | (simp (disch := first | assumption | omega) only [sB, Nat.reduceAdd, Nat.reduceLT, Nat.reduceLeDiff, Nat.reduceEqDiff, Nat.reduceMul, ↓reduceIte]; done) | fail) only [sA, ↓reduceIte, Nat.reduceLT, Nat.reduceEqDiff, Nat.reduceAdd, Nat.reduceLeDiff, g5, finish_flat (d := .int .i64 (Lev.val ⟨N, s.el⟩ (rv v))) rfl (H2.mono (show n2 ≤ n2 + 2 by omega))]
end Go.Proofs.Ytjagmfgjlfkmgaa

/- The reference's Limits. No condition but lengths. -/
namespace Go.Proofs.Ytjagmfgjlfkmgaa
open Go

theorem elemN : ElemOk 1 encN := ⟨fun _ => rfl, fun _ => rfl⟩
theorem zero_nums (n : Nat) : Nums n (List.replicate n (0 : Int)) := ⟨List.length_replicate, fun i => by
  have : gv (List.replicate n (0 : Int)) i = 0 := by
    unfold gv
    rw [List.getD_eq_getElem?_getD, List.getElem?_replicate]
    split <;> rfl
  rw [this]; omega⟩
/-- what is told ahead of the rounds, or the rounds' outcome -/
def limBad (a : Int) (s : List SLim) : Option Int :=
  if a < 0 ∨ 500 < a ∨ 2000 < s.length then some 2 else if s.all (chk1 a) = false then some 13 else if s.all chk2 = false then some 1 else none
theorem limBad_none {a : Int} {s : List SLim} (h : limBad a s = none) : ∃ na : Nat, a = (na : Int) ∧ na ≤ 500 ∧ s.length ≤ 2000 ∧ s.all (chk1 a) = true ∧ s.all chk2 = true ∧ Seen na s := by
  unfold limBad at h
  by_cases h1 : a < 0 ∨ 500 < a ∨ 2000 < s.length
  · rw [if_pos h1] at h; cases h
  · rw [if_neg h1] at h
    cases h2 : s.all (chk1 a) with
    | false => rw [if_pos h2] at h; cases h
    | true =>
      rw [if_neg (by rw [h2]; decide)] at h
      cases h3 : s.all chk2 with
      | false => rw [if_pos h3] at h; cases h
      | true =>
        refine ⟨a.toNat, by omega, by omega, by omega, rfl, rfl, fun x hx => ?_⟩
        have h4 := List.all_eq_true.1 h2 x hx
        unfold chk1 at h4
        rw [Bool.and_eq_true, Bool.and_eq_true, Bool.and_eq_true, decide_eq_true_iff, decide_eq_true_iff] at h4
        exact ⟨h4.1.1, h4.1.2, by omega, List.all_eq_true.1 h3 x hx⟩

end Go.Proofs.Ytjagmfgjlfkmgaa

/- The program's way to ask limits. No condition but lengths. -/
namespace Go.Proofs.Ytjagmfgjlfkmgaa
open Go

/-- a limit as the program keeps it -/
structure QLim where
  a : Lev
  on : Int
  less : Int
def encQ (x : QLim) : D := .agg [.int .i64 x.a.n, slD 2 encV (Sl.app x.a.v), .int .i64 x.on, .int .i64 x.less]
def qm (x : SLim) : QLim := match x.b.lev.norm.v with
  | [] => ⟨x.a.lev.norm, -1, x.b.lev.norm.n⟩
  | p :: _ => ⟨x.a.lev.norm, p.1, p.2⟩
theorem elemQ : ElemOk 4 encQ := ⟨fun c => by unfold encQ; simp [flat2_agg, flat1_slD, flat1_int], fun c => by
  show Bool.and (okF 4 (encQ c)) (clo 20 (encQ c)) = true
  unfold encQ
  show Bool.and true (allL (clo 19) [.int .i64 c.a.n, slD 2 encV (Sl.app c.a.v), .int .i64 c.on, .int .i64 c.less]) = true
  rw [allL_eq]
  simp [clo_slD]
  exact ⟨rfl, rfl, rfl⟩⟩
theorem lowQ (m : Nat) (c : QLim) : low m (encQ c) := low_flat (by unfold encQ; simp [flat_agg, flat1_slD, flat1_int])
theorem flatM (x : SLim) : flat (encM x) = true := by unfold encM; simp [flat_agg, flat1_slD, flat1_int]
theorem aggM (x : SLim) : ∃ cs, encM x = .agg cs ∧ cs.length = 4 := ⟨_, rfl, rfl⟩
theorem gd_m {m r k : Nat} {x y : Int} {s s' : Sl LV} {t : Hps} (h : r < m) : Gd m ((r, .row k [.agg [.int .i64 x, slD 2 encV s, .int .i64 y, slD 2 encV s']]) :: t) = Gd m t := propext ⟨fun H k hk => (good_cons.1 (H k hk)).2.2, fun H k hk => good_cons.2 ⟨by omega, lowO_one (low_flat (flatM ⟨⟨x, s⟩, ⟨y, s'⟩⟩)), H k hk⟩⟩
def okL (a : Int) (l : SLev) : Bool := l.lev.right && decide (l.lev.bnd ≤ a)
theorem chk1_eq (a : Int) (x : SLim) : chk1 a x = [x.a, x.b].all (okL a) := by
  unfold chk1 okL
  simp only [List.all_cons, List.all_nil, Bool.and_true]
  cases x.a.lev.right <;> cases x.b.lev.right <;> simp
theorem Bld.box1 {α : Type} {enc : α → D} {k n1 m : Nat} {h : Hps} {l : List α} {d : D} (hB : Bld k enc n1 l h d) (hg : GoodAt m h) : lowO m (.row 1 [.agg [d]]) := lowO_one (low_agg (fun x hx => by
  rw [List.mem_singleton.1 hx]; exact hB.lowF hg 18))

section
variable (n : Nat) (h : Hps)
set_option maxHeartbeats 4000000 in
/-- both levels of one limit -/
theorem askIn (a : Int) (x : SLim) {q4 q6 n0 : Nat} {e : Tr} {h' : Hps} {r : Re} (hr : LX (cFk kS Go.Proofs.Try.prog) (.loop l66_0) e n0 h' = r) (H : Hp n h n0 h') (hq4 : n ≤ q4) (b4 : getO h' q4 = .row 1 [.agg [.nils]]) (b6 : getO h' q6 = .row 1 [.agg [.nils]]) (l4 : q4 < n0) (l6 : q6 < n0) (l46 : q6 ≠ q4)
    (g0 : get (po 0) e = .int .i64 a) (g4 : get (po 4) e = .ptr q4 0 0) (g6 : get (po 6) e = .ptr q6 0 0) (g30 : get (po 30) e = encM x) (g31 : get (po 31) e = .int .i64 0) :
    ∃ y e' n' h'', r = .ok y e' n' h'' ∧ Hp n h n' h'' ∧ n0 ≤ n' ∧ getO h'' q4 = .row 1 [.agg [.nils]] ∧ getO h'' q6 = .row 1 [.agg [.nils]] ∧ ((y = .exit 2 ∧ chk1 a x = true ∧
      get (po 0) e' = get (po 0) e ∧ get (po 1) e' = get (po 1) e ∧ get (po 4) e' = get (po 4) e ∧ get (po 6) e' = get (po 6) e ∧ get (po 20) e' = get (po 20) e ∧ get (po 21) e' = get (po 21) e ∧ get (po 22) e' = get (po 22) e) ∨ (y = .ret ∧ chk1 a x = false ∧ get (po 4) e' = .ptr q4 0 0 ∧ get (po 5) e' = .int .i64 13)) := by
  rw [chk1_eq]
  have hai : ∀ i (hi : i < [x.a, x.b].length) m hh, natR (aidxD m hh true 2 2 (encM x)) (.int .i64 ((i : Nat) : Int)) = .ok (D.agg [.int .i64 ([x.a, x.b][i].n), slD 2 encV ([x.a, x.b][i].vs)]) m hh := fun i hi m hh => by
    match i, hi with
    | 0, _ => rfl
    | 1, _ => rfl
  generalize hL : [x.a, x.b] = L at hai
  have hL2 : L.length = 2 := by rw [← hL]; rfl
  refine loop_up hr 2
    (fun i e' n' h'' => Hp n h n' h'' ∧ n0 ≤ n' ∧ getO h'' q4 = .row 1 [.agg [.nils]] ∧ getO h'' q6 = .row 1 [.agg [.nils]] ∧ (L.drop i).all (okL a) = L.all (okL a) ∧
      (get (po 0) e' = get (po 0) e ∧ get (po 1) e' = get (po 1) e ∧ get (po 4) e' = get (po 4) e ∧ get (po 6) e' = get (po 6) e ∧ get (po 20) e' = get (po 20) e ∧ get (po 21) e' = get (po 21) e ∧ get (po 22) e' = get (po 22) e) ∧ get (po 30) e' = encM x ∧ get (po 31) e' = .int .i64 (i : Nat))
    (fun y e' n' h'' => Hp n h n' h'' ∧ n0 ≤ n' ∧ getO h'' q4 = .row 1 [.agg [.nils]] ∧ getO h'' q6 = .row 1 [.agg [.nils]] ∧ ((y = .exit 2 ∧ L.all (okL a) = true ∧
      get (po 0) e' = get (po 0) e ∧ get (po 1) e' = get (po 1) e ∧ get (po 4) e' = get (po 4) e ∧ get (po 6) e' = get (po 6) e ∧ get (po 20) e' = get (po 20) e ∧ get (po 21) e' = get (po 21) e ∧ get (po 22) e' = get (po 22) e) ∨ (y = .ret ∧ L.all (okL a) = false ∧ get (po 4) e' = .ptr q4 0 0 ∧ get (po 5) e' = .int .i64 13)))
    ?_ ?_ ⟨H, Nat.le_refl _, b4, b6, rfl, ⟨rfl, rfl, rfl, rfl, rfl, rfl, rfl⟩, g30, g31⟩
  · rintro e' n' h'' ⟨H, p1, b4, b6, hall, ⟨k0, k1, k4, k6, k20, k21, k22⟩, g30, g31⟩
    rw [← hL2, List.drop_length] at hall
    unfold l66_0
    simp (disch := first | assumption | omega | (simp (disch := first | assumption | omega) only [sB, Nat.reduceAdd, Nat.reduceLT, Nat.reduceLeDiff, Nat.reduceEqDiff, Nat.reduceMul, ↓reduceIte]; done) | fail) only [sA, ↓reduceIte, Nat.reduceLT, Nat.reduceEqDiff, Nat.reduceAdd, Nat.reduceLeDiff, g31]
    exact ⟨_, _, _, _, rfl, by simp, H.mono (by omega), by omega, b4, b6, .inl ⟨rfl, hall.symm, by simp (disch := first | assumption | omega | (simp (disch := first | assumption | omega) only [sB, Nat.reduceAdd, Nat.reduceLT, Nat.reduceLeDiff, Nat.reduceEqDiff, Nat.reduceMul, ↓reduceIte]; done) | fail) only [sA, ↓reduceIte, Nat.reduceLT, Nat.reduceEqDiff, Nat.reduceAdd, Nat.reduceLeDiff, k0], by simp (disch := first | assumption | omega | (simp (disch := first | assumption | omega) only [sB, Nat.reduceAdd, Nat.reduceLT, Nat.reduceLeDiff, Nat.reduceEqDiff, Nat.reduceMul, ↓reduceIte]; done) | fail) only [sA, ↓reduceIte, Nat.reduceLT, Nat.reduceEqDiff, Nat.reduceAdd, Nat.reduceLeDiff, k1], by simp (disch := first | assumption | omega | (simp (disch := first | assumption | omega) only [sB, Nat.reduceAdd, Nat.reduceLT, Nat.reduceLeDiff, Nat.reduceEqDiff, Nat.reduceMul, ↓reduceIte]; done) | fail) only [sA, ↓reduceIte, Nat.reduceLT, Nat.reduceEqDiff, Nat.reduceAdd, Nat.reduceLeDiff, k4], by simp (disch := first | assumption | omega | (simp (disch := first | assumption | omega) only [sB, Nat.reduceAdd, Nat.reduceLT, Nat.reduceLeDiff, Nat.reduceEqDiff, Nat.reduceMul, ↓reduceIte]; done) | fail) only [sA, ↓reduceIte, Nat.reduceLT, Nat.reduceEqDiff, Nat.reduceAdd, Nat.reduceLeDiff, k6], by simp (disch := first | assumption | omega | (simp (disch := first | assumption | omega) only [sB, Nat.reduceAdd, Nat.reduceLT, Nat.reduceLeDiff, Nat.reduceEqDiff, Nat.reduceMul, ↓reduceIte]; done) | fail) only [sA, ↓reduceIte, Nat.reduceLT, Nat.reduceEqDiff, Nat.reduceAdd, Nat.reduceLeDiff, k20], by simp (disch := first | assumption | omega | (simp (disch := first | assumption | omega) only [sB, Nat.reduceAdd, Nat.reduceLT, Nat.reduceLeDiff, Nat.reduceEqDiff, Nat.reduceMul, ↓reduceIte]; done) | fail) only [sA, ↓reduceIte, Nat.reduceLT, Nat.reduceEqDiff, Nat.reduceAdd, Nat.reduceLeDiff, k21], by simp (disch := first | assumption | omega | (simp (disch := first | assumption | omega) only [sB, Nat.reduceAdd, Nat.reduceLT, Nat.reduceLeDiff, Nat.reduceEqDiff, Nat.reduceMul, ↓reduceIte]; done) | fail) only [sA, ↓reduceIte, Nat.reduceLT, Nat.reduceEqDiff, Nat.reduceAdd, Nat.reduceLeDiff, k22]⟩⟩
  · rintro i e' n' h'' hi ⟨H, p1, b4, b6, hall, ⟨k0, k1, k4, k6, k20, k21, k22⟩, g30, g31⟩
    rw [g0] at k0
    rw [g4] at k4
    rw [g6] at k6
    have hiL : i < L.length := by omega
    rw [List.drop_eq_getElem_cons hiL, List.all_cons] at hall
    have hai2 := hai i hiL
    have hG : ∀ m, n' ≤ m → Gd m h'' := fun m hm => H.good' hm
    generalize L[i] = W at hall hai2
    obtain ⟨an, av⟩ := W
    have e1 : okL a ⟨an, av⟩ = (Lev.right ⟨an, av.el⟩ && decide (Lev.bnd ⟨an, av.el⟩ ≤ a)) := rfl
    rw [e1] at hall
    have c1 : ∀ m h, Gd m h → callFn (LX (cFk kS Go.Proofs.Try.prog)) m h [(D.agg [.int .i64 (an), slD 2 encV (av)])] (cFk kS Go.Proofs.Try.prog 36) = .ok (D.tup [.agg [.int .i64 (Lev.nrm ⟨an, av.el⟩).1.n, slD 2 encV (Sl.app (Lev.nrm ⟨an, av.el⟩).1.v)], .int .i64 (Lev.nrm ⟨an, av.el⟩).2]) m h := fun m h hg => lvNormA m h hg an _ _ _ (svV av)
    have c2 : ∀ m h, Gd m h → callFn (LX (cFk kS Go.Proofs.Try.prog)) m h [(D.agg [.int .i64 (an), slD 2 encV (av)])] (cFk kS Go.Proofs.Try.prog 53) = .ok (.int .i64 (Lev.bound ⟨an, av.el⟩)) m h := fun m h hg => lvBoundA m h hg an av
    have hi3 : ((i : Nat) : Int) < 2 := by omega
    have HS : Hp n h n' (setO h'' q4 (.row 1 [.agg [.nils]])) := H.set hq4 (fun q _ => lowO_one (low_flat rfl))
    have bS4 : getO (setO h'' q4 (.row 1 [.agg [.nils]])) q4 = .row 1 [.agg [.nils]] := getO_set1 b4
    have bS6 : getO (setO h'' q4 (.row 1 [.agg [.nils]])) q6 = .row 1 [.agg [.nils]] := getO_set2 b4 b6 l46
    have HB2 : ∀ (M : SLev) {Z : Hps}, Hp n h n' Z → Hp n h (n' + 11) ((n' + 10, .row 2 [encL M]) :: (n' + 2, (Ob.row 2 [.agg [.int .i64 (an), slD 2 encV (av)]])) :: Z) := fun M Z HZ => (HZ.box (r := n' + 2) (m := n' + 3) (by omega) (by omega) (flatL ⟨an, av⟩)).box (r := n' + 10) (m := n' + 11) (by omega) (by omega) (flatL M)
    unfold l66_0
    by_cases ra : Lev.right ⟨an, av.el⟩ = true
    · have hb : Lev.bound ⟨an, av.el⟩ = Lev.bnd ⟨an, av.el⟩ := by unfold Lev.bound; rw [if_pos ra]
      simp only [nrm_right ra] at c1
      rw [ra, Bool.true_and] at hall
      rw [hb] at c2
      generalize Lev.bnd ⟨an, av.el⟩ = X at c2 hall
      generalize Lev.norm ⟨an, av.el⟩ = M at c1
      obtain ⟨Mn, Mv⟩ := M
      by_cases y1 : X > a
      · rw [decide_eq_false (by omega), Bool.false_and] at hall
        simp (disch := first | assumption | omega | (simp (disch := first | assumption | omega) only [sB, Nat.reduceAdd, Nat.reduceLT, Nat.reduceLeDiff, Nat.reduceEqDiff, Nat.reduceMul, ↓reduceIte, hG, gd_lev, gd_zero]; done) | fail) only [sA, ↓reduceIte, Nat.reduceLT, Nat.reduceEqDiff, Nat.reduceAdd, Nat.reduceLeDiff, k0, k4, k6, g30, g31, hi3, hai2, c1, c2, y1, b4, b6, hG, gd_lev, gd_zero]
        exact ⟨_, _, _, _, rfl, .inr ⟨by simp, (HB2 ⟨Mn, Sl.app Mv⟩ HS).mono (by omega), by omega, getO_keep (getO_keep bS4 (by omega)) (by omega), getO_keep (getO_keep bS6 (by omega)) (by omega), .inr ⟨rfl, hall.symm, by simp (disch := first | assumption | omega | (simp (disch := first | assumption | omega) only [sB, Nat.reduceAdd, Nat.reduceLT, Nat.reduceLeDiff, Nat.reduceEqDiff, Nat.reduceMul, ↓reduceIte]; done) | fail) only [sA, ↓reduceIte, Nat.reduceLT, Nat.reduceEqDiff, Nat.reduceAdd, Nat.reduceLeDiff, k4], by simp (disch := first | assumption | omega | (simp (disch := first | assumption | omega) only [sB, Nat.reduceAdd, Nat.reduceLT, Nat.reduceLeDiff, Nat.reduceEqDiff, Nat.reduceMul, ↓reduceIte]; done) | fail) only [sA, ↓reduceIte, Nat.reduceLT, Nat.reduceEqDiff, Nat.reduceAdd, Nat.reduceLeDiff]⟩⟩⟩
      · rw [decide_eq_true (by omega), Bool.true_and] at hall
        simp (disch := first | assumption | omega | (simp (disch := first | assumption | omega) only [sB, Nat.reduceAdd, Nat.reduceLT, Nat.reduceLeDiff, Nat.reduceEqDiff, Nat.reduceMul, ↓reduceIte, hG, gd_lev, gd_zero]; done) | fail) only [sA, ↓reduceIte, Nat.reduceLT, Nat.reduceEqDiff, Nat.reduceAdd, Nat.reduceLeDiff, k0, k4, k6, g30, g31, hi3, hai2, c1, c2, y1, b4, b6, hG, gd_lev, gd_zero]
        exact ⟨_, _, _, _, rfl, .inl ⟨rfl, (HB2 ⟨Mn, Sl.app Mv⟩ H).mono (by omega), by omega, getO_keep (getO_keep b4 (by omega)) (by omega), getO_keep (getO_keep b6 (by omega)) (by omega), hall, ⟨by simp (disch := first | assumption | omega | (simp (disch := first | assumption | omega) only [sB, Nat.reduceAdd, Nat.reduceLT, Nat.reduceLeDiff, Nat.reduceEqDiff, Nat.reduceMul, ↓reduceIte]; done) | fail) only [sA, ↓reduceIte, Nat.reduceLT, Nat.reduceEqDiff, Nat.reduceAdd, Nat.reduceLeDiff, k0, g0], by simp (disch := first | assumption | omega | (simp (disch := first | assumption | omega) only [sB, Nat.reduceAdd, Nat.reduceLT, Nat.reduceLeDiff, Nat.reduceEqDiff, Nat.reduceMul, ↓reduceIte]; done) | fail) only [sA, ↓reduceIte, Nat.reduceLT, Nat.reduceEqDiff, Nat.reduceAdd, Nat.reduceLeDiff, k1], by simp (disch := first | assumption | omega | (simp (disch := first | assumption | omega) only [sB, Nat.reduceAdd, Nat.reduceLT, Nat.reduceLeDiff, Nat.reduceEqDiff, Nat.reduceMul, ↓reduceIte]; done) | fail) only [sA, ↓reduceIte, Nat.reduceLT, Nat.reduceEqDiff, Nat.reduceAdd, Nat.reduceLeDiff, k4, g4], by simp (disch := first | assumption | omega | (simp (disch := first | assumption | omega) only [sB, Nat.reduceAdd, Nat.reduceLT, Nat.reduceLeDiff, Nat.reduceEqDiff, Nat.reduceMul, ↓reduceIte]; done) | fail) only [sA, ↓reduceIte, Nat.reduceLT, Nat.reduceEqDiff, Nat.reduceAdd, Nat.reduceLeDiff, k6, g6], by simp (disch := first | assumption | omega | (simp (disch := first | assumption | omega) only [sB, Nat.reduceAdd, Nat.reduceLT, Nat.reduceLeDiff, Nat.reduceEqDiff, Nat.reduceMul, ↓reduceIte]; done) | fail) only [sA, ↓reduceIte, Nat.reduceLT, Nat.reduceEqDiff, Nat.reduceAdd, Nat.reduceLeDiff, k20], by simp (disch := first | assumption | omega | (simp (disch := first | assumption | omega) only [sB, Nat.reduceAdd, Nat.reduceLT, Nat.reduceLeDiff, Nat.reduceEqDiff, Nat.reduceMul, ↓reduceIte]; done) | fail) only [sA, ↓reduceIte, Nat.reduceLT, Nat.reduceEqDiff, Nat.reduceAdd, Nat.reduceLeDiff, k21], by simp (disch := first | assumption | omega | (simp (disch := first | assumption | omega) only [sB, Nat.reduceAdd, Nat.reduceLT, Nat.reduceLeDiff, Nat.reduceEqDiff, Nat.reduceMul, ↓reduceIte]; done) | fail) only [sA, ↓reduceIte, Nat.reduceLT, Nat.reduceEqDiff, Nat.reduceAdd, Nat.reduceLeDiff, k22]⟩, by simp (disch := first | assumption | omega | (simp (disch := first | assumption | omega) only [sB, Nat.reduceAdd, Nat.reduceLT, Nat.reduceLeDiff, Nat.reduceEqDiff, Nat.reduceMul, ↓reduceIte]; done) | fail) only [sA, ↓reduceIte, Nat.reduceLT, Nat.reduceEqDiff, Nat.reduceAdd, Nat.reduceLeDiff, g30], by simp (disch := first | assumption | omega | (simp (disch := first | assumption | omega) only [sB, Nat.reduceAdd, Nat.reduceLT, Nat.reduceLeDiff, Nat.reduceEqDiff, Nat.reduceMul, ↓reduceIte]; done) | fail) only [sA, ↓reduceIte, Nat.reduceLT, Nat.reduceEqDiff, Nat.reduceAdd, Nat.reduceLeDiff]⟩⟩
    · simp only [nrm_wrong ra] at c1
      rw [show Lev.right ⟨an, av.el⟩ = false by cases hx : Lev.right ⟨an, av.el⟩ <;> simp_all, Bool.false_and, Bool.false_and] at hall
      simp (disch := first | assumption | omega | (simp (disch := first | assumption | omega) only [sB, Nat.reduceAdd, Nat.reduceLT, Nat.reduceLeDiff, Nat.reduceEqDiff, Nat.reduceMul, ↓reduceIte, hG, gd_lev, gd_zero]; done) | fail) only [sA, ↓reduceIte, Nat.reduceLT, Nat.reduceEqDiff, Nat.reduceAdd, Nat.reduceLeDiff, k0, k4, k6, g30, g31, hi3, hai2, c1, b4, b6, slD_nil, hG, gd_lev, gd_zero]
      exact ⟨_, _, _, _, rfl, .inr ⟨by simp, (HB2 ⟨0, Sl.app []⟩ HS).mono (by omega), by omega, getO_keep (getO_keep bS4 (by omega)) (by omega), getO_keep (getO_keep bS6 (by omega)) (by omega), .inr ⟨rfl, hall.symm, by simp (disch := first | assumption | omega | (simp (disch := first | assumption | omega) only [sB, Nat.reduceAdd, Nat.reduceLT, Nat.reduceLeDiff, Nat.reduceEqDiff, Nat.reduceMul, ↓reduceIte]; done) | fail) only [sA, ↓reduceIte, Nat.reduceLT, Nat.reduceEqDiff, Nat.reduceAdd, Nat.reduceLeDiff, k4], by simp (disch := first | assumption | omega | (simp (disch := first | assumption | omega) only [sB, Nat.reduceAdd, Nat.reduceLT, Nat.reduceLeDiff, Nat.reduceEqDiff, Nat.reduceMul, ↓reduceIte]; done) | fail) only [sA, ↓reduceIte, Nat.reduceLT, Nat.reduceEqDiff, Nat.reduceAdd, Nat.reduceLeDiff]⟩⟩⟩

set_option maxHeartbeats 4000000 in
theorem ask1 (a : Int) (d : D) (l : List SLim) (ad : Nat → D) (hl : l.length ≤ 2000) {q4 q6 n0 : Nat} {e : Tr} {h' : Hps} {r : Re} (hr : LX (cFk kS Go.Proofs.Try.prog) (.loop l66_1) e n0 h' = r) (H : Hp n h n0 h') (S : Sv 4 encM n h d l ad) (hq4 : n ≤ q4) (b4 : getO h' q4 = .row 1 [.agg [.nils]]) (b6 : getO h' q6 = .row 1 [.agg [.nils]]) (l4 : q4 < n0) (l6 : q6 < n0) (l46 : q6 ≠ q4)
    (g0 : get (po 0) e = .int .i64 a) (g1 : get (po 1) e = d) (g4 : get (po 4) e = .ptr q4 0 0) (g6 : get (po 6) e = .ptr q6 0 0) (g20 : get (po 20) e = d) (g21 : get (po 21) e = .int .i64 (l.length : Nat)) (g22 : get (po 22) e = .int .i64 0) :
    ∃ y e' n' h'', r = .ok y e' n' h'' ∧ Hp n h n' h'' ∧ n0 ≤ n' ∧ getO h'' q4 = .row 1 [.agg [.nils]] ∧ getO h'' q6 = .row 1 [.agg [.nils]] ∧ ((y = .exit 0 ∧ l.all (chk1 a) = true ∧ get (po 0) e' = .int .i64 a ∧ get (po 1) e' = d ∧ get (po 4) e' = .ptr q4 0 0 ∧ get (po 6) e' = .ptr q6 0 0) ∨ (y = .ret ∧ l.all (chk1 a) = false ∧ get (po 4) e' = .ptr q4 0 0 ∧ get (po 5) e' = .int .i64 13)) := by
  refine loop_up hr l.length
    (fun i e' n' h'' => Hp n h n' h'' ∧ n0 ≤ n' ∧ getO h'' q4 = .row 1 [.agg [.nils]] ∧ getO h'' q6 = .row 1 [.agg [.nils]] ∧ (l.drop i).all (chk1 a) = l.all (chk1 a) ∧ get (po 0) e' = .int .i64 a ∧ get (po 1) e' = d ∧ get (po 4) e' = .ptr q4 0 0 ∧ get (po 6) e' = .ptr q6 0 0 ∧ get (po 20) e' = d ∧ get (po 21) e' = .int .i64 (l.length : Nat) ∧ get (po 22) e' = .int .i64 (i : Nat))
    (fun y e' n' h'' => Hp n h n' h'' ∧ n0 ≤ n' ∧ getO h'' q4 = .row 1 [.agg [.nils]] ∧ getO h'' q6 = .row 1 [.agg [.nils]] ∧ ((y = .exit 0 ∧ l.all (chk1 a) = true ∧ get (po 0) e' = .int .i64 a ∧ get (po 1) e' = d ∧ get (po 4) e' = .ptr q4 0 0 ∧ get (po 6) e' = .ptr q6 0 0) ∨ (y = .ret ∧ l.all (chk1 a) = false ∧ get (po 4) e' = .ptr q4 0 0 ∧ get (po 5) e' = .int .i64 13)))
    ?_ ?_ ⟨H, Nat.le_refl _, b4, b6, rfl, g0, g1, g4, g6, g20, g21, g22⟩
  · rintro e' n' h'' ⟨H, p1, b4, b6, hall, g0, g1, g4, g6, g20, g21, g22⟩
    rw [List.drop_length] at hall
    unfold l66_1
    simp (disch := first | assumption | omega | (simp (disch := first | assumption | omega) only [sB, Nat.reduceAdd, Nat.reduceLT, Nat.reduceLeDiff, Nat.reduceEqDiff, Nat.reduceMul, ↓reduceIte]; done) | fail) only [sA, ↓reduceIte, Nat.reduceLT, Nat.reduceEqDiff, Nat.reduceAdd, Nat.reduceLeDiff, g21, g22]
    exact ⟨_, _, _, _, rfl, by simp, H.mono (by omega), by omega, b4, b6, .inl ⟨rfl, hall.symm, by simp (disch := first | assumption | omega | (simp (disch := first | assumption | omega) only [sB, Nat.reduceAdd, Nat.reduceLT, Nat.reduceLeDiff, Nat.reduceEqDiff, Nat.reduceMul, ↓reduceIte]; done) | fail) only [sA, ↓reduceIte, Nat.reduceLT, Nat.reduceEqDiff, Nat.reduceAdd, Nat.reduceLeDiff, g0], by simp (disch := first | assumption | omega | (simp (disch := first | assumption | omega) only [sB, Nat.reduceAdd, Nat.reduceLT, Nat.reduceLeDiff, Nat.reduceEqDiff, Nat.reduceMul, ↓reduceIte]; done) | fail) only [sA, ↓reduceIte, Nat.reduceLT, Nat.reduceEqDiff, Nat.reduceAdd, Nat.reduceLeDiff, g1], by simp (disch := first | assumption | omega | (simp (disch := first | assumption | omega) only [sB, Nat.reduceAdd, Nat.reduceLT, Nat.reduceLeDiff, Nat.reduceEqDiff, Nat.reduceMul, ↓reduceIte]; done) | fail) only [sA, ↓reduceIte, Nat.reduceLT, Nat.reduceEqDiff, Nat.reduceAdd, Nat.reduceLeDiff, g4], by simp (disch := first | assumption | omega | (simp (disch := first | assumption | omega) only [sB, Nat.reduceAdd, Nat.reduceLT, Nat.reduceLeDiff, Nat.reduceEqDiff, Nat.reduceMul, ↓reduceIte]; done) | fail) only [sA, ↓reduceIte, Nat.reduceLT, Nat.reduceEqDiff, Nat.reduceAdd, Nat.reduceLeDiff, g6]⟩⟩
  · rintro i e' n' h'' hi ⟨H, p1, b4, b6, hall, g0, g1, g4, g6, g20, g21, g22⟩
    rw [List.drop_eq_getElem_cons hi, List.all_cons] at hall
    have S' := S.mono H (Nat.le_refl _)
    have s2 := S'.idx
    have s3 := S'.okD
    have s4 := fun m => S'.ld h'' (fun _ _ => rfl) m i hi
    generalize hW : l[i] = W at hall s4
    simp only [encM] at s4
    unfold l66_1
    simp (disch := first | assumption | omega | (simp (disch := first | assumption | omega) only [sB, Nat.reduceAdd, Nat.reduceLT, Nat.reduceLeDiff, Nat.reduceEqDiff, Nat.reduceMul, ↓reduceIte]; done) | fail) only [sA, ↓reduceIte, Nat.reduceLT, Nat.reduceEqDiff, Nat.reduceAdd, Nat.reduceLeDiff, g20, g21, g22, s2, s3, s4]
    generalize hr : LX (cFk kS Go.Proofs.Try.prog) (.loop l66_0) _ _ _ = r
    have hn := H.le
    obtain ⟨y, e2, n2, h2, rfl, H2, p2, b4', b6', hc⟩ := askIn n h a W (q4 := q4) (q6 := q6) hr ((H.box (r := n' + 3) (m := n' + 4) (by omega) (by omega) (flatM W)).mono (by omega)) hq4 (getO_keep b4 (by omega)) (getO_keep b6 (by omega)) (by omega) (by omega) l46 (by simp (disch := first | assumption | omega | (simp (disch := first | assumption | omega) only [sB, Nat.reduceAdd, Nat.reduceLT, Nat.reduceLeDiff, Nat.reduceEqDiff, Nat.reduceMul, ↓reduceIte]; done) | fail) only [sA, ↓reduceIte, Nat.reduceLT, Nat.reduceEqDiff, Nat.reduceAdd, Nat.reduceLeDiff, g0]) (by simp (disch := first | assumption | omega | (simp (disch := first | assumption | omega) only [sB, Nat.reduceAdd, Nat.reduceLT, Nat.reduceLeDiff, Nat.reduceEqDiff, Nat.reduceMul, ↓reduceIte]; done) | fail) only [sA, ↓reduceIte, Nat.reduceLT, Nat.reduceEqDiff, Nat.reduceAdd, Nat.reduceLeDiff, g4]) (by simp (disch := first | assumption | omega | (simp (disch := first | assumption | omega) only [sB, Nat.reduceAdd, Nat.reduceLT, Nat.reduceLeDiff, Nat.reduceEqDiff, Nat.reduceMul, ↓reduceIte]; done) | fail) only [sA, ↓reduceIte, Nat.reduceLT, Nat.reduceEqDiff, Nat.reduceAdd, Nat.reduceLeDiff, g6]) (by simp (disch := first | assumption | omega | (simp (disch := first | assumption | omega) only [sB, Nat.reduceAdd, Nat.reduceLT, Nat.reduceLeDiff, Nat.reduceEqDiff, Nat.reduceMul, ↓reduceIte]; done) | fail) only [sA, ↓reduceIte, Nat.reduceLT, Nat.reduceEqDiff, Nat.reduceAdd, Nat.reduceLeDiff]; rfl) (by simp (disch := first | assumption | omega | (simp (disch := first | assumption | omega) only [sB, Nat.reduceAdd, Nat.reduceLT, Nat.reduceLeDiff, Nat.reduceEqDiff, Nat.reduceMul, ↓reduceIte]; done) | fail) only [sA, ↓reduceIte, Nat.reduceLT, Nat.reduceEqDiff, Nat.reduceAdd, Nat.reduceLeDiff])
    rcases hc with ⟨rfl, hW1, k0, k1, k4, k6, k20, k21, k22⟩ | ⟨rfl, hW1, k4, k5⟩
    · rw [hW1, Bool.true_and] at hall
      replace k0 := k0.trans (show _ = .int .i64 a by simp (disch := first | assumption | omega | (simp (disch := first | assumption | omega) only [sB, Nat.reduceAdd, Nat.reduceLT, Nat.reduceLeDiff, Nat.reduceEqDiff, Nat.reduceMul, ↓reduceIte]; done) | fail) only [sA, ↓reduceIte, Nat.reduceLT, Nat.reduceEqDiff, Nat.reduceAdd, Nat.reduceLeDiff, g0])
      replace k1 := k1.trans (show _ = d by simp (disch := first | assumption | omega | (simp (disch := first | assumption | omega) only [sB, Nat.reduceAdd, Nat.reduceLT, Nat.reduceLeDiff, Nat.reduceEqDiff, Nat.reduceMul, ↓reduceIte]; done) | fail) only [sA, ↓reduceIte, Nat.reduceLT, Nat.reduceEqDiff, Nat.reduceAdd, Nat.reduceLeDiff, g1])
      replace k4 := k4.trans (show _ = .ptr q4 0 0 by simp (disch := first | assumption | omega | (simp (disch := first | assumption | omega) only [sB, Nat.reduceAdd, Nat.reduceLT, Nat.reduceLeDiff, Nat.reduceEqDiff, Nat.reduceMul, ↓reduceIte]; done) | fail) only [sA, ↓reduceIte, Nat.reduceLT, Nat.reduceEqDiff, Nat.reduceAdd, Nat.reduceLeDiff, g4])
      replace k6 := k6.trans (show _ = .ptr q6 0 0 by simp (disch := first | assumption | omega | (simp (disch := first | assumption | omega) only [sB, Nat.reduceAdd, Nat.reduceLT, Nat.reduceLeDiff, Nat.reduceEqDiff, Nat.reduceMul, ↓reduceIte]; done) | fail) only [sA, ↓reduceIte, Nat.reduceLT, Nat.reduceEqDiff, Nat.reduceAdd, Nat.reduceLeDiff, g6])
      replace k20 := k20.trans (show _ = d by simp (disch := first | assumption | omega | (simp (disch := first | assumption | omega) only [sB, Nat.reduceAdd, Nat.reduceLT, Nat.reduceLeDiff, Nat.reduceEqDiff, Nat.reduceMul, ↓reduceIte]; done) | fail) only [sA, ↓reduceIte, Nat.reduceLT, Nat.reduceEqDiff, Nat.reduceAdd, Nat.reduceLeDiff, g20])
      replace k21 := k21.trans (show _ = .int .i64 (l.length : Nat) by simp (disch := first | assumption | omega | (simp (disch := first | assumption | omega) only [sB, Nat.reduceAdd, Nat.reduceLT, Nat.reduceLeDiff, Nat.reduceEqDiff, Nat.reduceMul, ↓reduceIte]; done) | fail) only [sA, ↓reduceIte, Nat.reduceLT, Nat.reduceEqDiff, Nat.reduceAdd, Nat.reduceLeDiff, g21])
      replace k22 := k22.trans (show _ = .int .i64 (i : Nat) by simp (disch := first | assumption | omega | (simp (disch := first | assumption | omega) only [sB, Nat.reduceAdd, Nat.reduceLT, Nat.reduceLeDiff, Nat.reduceEqDiff, Nat.reduceMul, ↓reduceIte]; done) | fail) only [sA, ↓reduceIte, Nat.reduceLT, Nat.reduceEqDiff, Nat.reduceAdd, Nat.reduceLeDiff, g22])
      simp (disch := first | assumption | omega | (simp (disch := first | assumption | omega) only [sB, Nat.reduceAdd, Nat.reduceLT, Nat.reduceLeDiff, Nat.reduceEqDiff, Nat.reduceMul, ↓reduceIte]; done) | fail) only [sA, ↓reduceIte, Nat.reduceLT, Nat.reduceEqDiff, Nat.reduceAdd, Nat.reduceLeDiff, k22]
      exact ⟨_, _, _, _, rfl, .inl ⟨rfl, H2.mono (by omega), by omega, b4', b6', hall, by simp (disch := first | assumption | omega | (simp (disch := first | assumption | omega) only [sB, Nat.reduceAdd, Nat.reduceLT, Nat.reduceLeDiff, Nat.reduceEqDiff, Nat.reduceMul, ↓reduceIte]; done) | fail) only [sA, ↓reduceIte, Nat.reduceLT, Nat.reduceEqDiff, Nat.reduceAdd, Nat.reduceLeDiff, k0], by simp (disch := first | assumption | omega | (simp (disch := first | assumption | omega) only [sB, Nat.reduceAdd, Nat.reduceLT, Nat.reduceLeDiff, Nat.reduceEqDiff, Nat.reduceMul, ↓reduceIte]; done) | fail) only [sA, ↓reduceIte, Nat.reduceLT, Nat.reduceEqDiff, Nat.reduceAdd, Nat.reduceLeDiff, k1], by simp (disch := first | assumption | omega | (simp (disch := first | assumption | omega) only [sB, Nat.reduceAdd, Nat.reduceLT, Nat.reduceLeDiff, Nat.reduceEqDiff, Nat.reduceMul, ↓reduceIte]; done) | fail) only [sA, ↓reduceIte, Nat.reduceLT, Nat.reduceEqDiff, Nat.reduceAdd, Nat.reduceLeDiff, k4], by simp (disch := first | assumption | omega | (simp (disch := first | assumption | omega) only [sB, Nat.reduceAdd, Nat.reduceLT, Nat.reduceLeDiff, Nat.reduceEqDiff, Nat.reduceMul, ↓reduceIte]; done) | fail) only [sA, ↓reduceIte, Nat.reduceLT, Nat.reduceEqDiff, Nat.reduceAdd, Nat.reduceLeDiff, k6], by simp (disch := first | assumption | omega | (simp (disch := first | assumption | omega) only [sB, Nat.reduceAdd, Nat.reduceLT, Nat.reduceLeDiff, Nat.reduceEqDiff, Nat.reduceMul, ↓reduceIte]; done) | fail) only [sA, ↓reduceIte, Nat.reduceLT, Nat.reduceEqDiff, Nat.reduceAdd, Nat.reduceLeDiff, k20], by simp (disch := first | assumption | omega | (simp (disch := first | assumption | omega) only [sB, Nat.reduceAdd, Nat.reduceLT, Nat.reduceLeDiff, Nat.reduceEqDiff, Nat.reduceMul, ↓reduceIte]; done) | fail) only [sA, ↓reduceIte, Nat.reduceLT, Nat.reduceEqDiff, Nat.reduceAdd, Nat.reduceLeDiff, k21], by simp (disch := first | assumption | omega | (simp (disch := first | assumption | omega) only [sB, Nat.reduceAdd, Nat.reduceLT, Nat.reduceLeDiff, Nat.reduceEqDiff, Nat.reduceMul, ↓reduceIte]; done) | fail) only [sA, ↓reduceIte, Nat.reduceLT, Nat.reduceEqDiff, Nat.reduceAdd, Nat.reduceLeDiff]⟩⟩
    · rw [hW1, Bool.false_and] at hall
      simp (disch := first | assumption | omega | (simp (disch := first | assumption | omega) only [sB, Nat.reduceAdd, Nat.reduceLT, Nat.reduceLeDiff, Nat.reduceEqDiff, Nat.reduceMul, ↓reduceIte]; done) | fail) only [sA, ↓reduceIte, Nat.reduceLT, Nat.reduceEqDiff, Nat.reduceAdd, Nat.reduceLeDiff]
      exact ⟨_, _, _, _, rfl, .inr ⟨by simp, H2.mono (by omega), by omega, b4', b6', .inr ⟨rfl, hall.symm, k4, k5⟩⟩⟩

set_option maxHeartbeats 8000000 in
theorem ask2 (a : Int) (d : D) (l : List SLim) (ad : Nat → D) (hc : l.all (chk1 a) = true) (hl : l.length ≤ 2000) {q4 q6 n0 : Nat} {e : Tr} {h' : Hps} {r : Re} (hr : LX (cFk kS Go.Proofs.Try.prog) (.loop l66_2) e n0 h' = r) (H : Hp n h n0 h') (S : Sv 4 encM n h d l ad) (hq4 : n ≤ q4) (b4 : getO h' q4 = .row 1 [.agg [.nils]]) (b6 : getO h' q6 = .row 1 [.agg [.nils]]) (l4 : q4 < q6) (l6 : q6 < n0)
    (g4 : get (po 4) e = .ptr q4 0 0) (g6 : get (po 6) e = .ptr q6 0 0) (g50 : get (po 50) e = d) (g51 : get (po 51) e = .int .i64 (l.length : Nat)) (g52 : get (po 52) e = .int .i64 0) :
    ∃ y e' n' h'', r = .ok y e' n' h'' ∧ Hp n h n' h'' ∧ n0 ≤ n' ∧ get (po 4) e' = .ptr q4 0 0 ∧ ∃ dd l', Bld 4 encQ (q6 + 1) l' h'' dd ∧ ((y = .exit 4 ∧ l.all chk2 = true ∧ l' = l.map qm ∧ getO h'' q4 = .row 1 [.agg [.nils]] ∧ getO h'' q6 = .row 1 [.agg [dd]] ∧ get (po 6) e' = .ptr q6 0 0) ∨ (y = .ret ∧ l.all chk2 = false ∧ getO h'' q4 = .row 1 [.agg [dd]] ∧ get (po 5) e' = .int .i64 1)) := by
  refine loop_up hr l.length
    (fun i e' n' h'' => Hp n h n' h'' ∧ n0 ≤ n' ∧ get (po 4) e' = .ptr q4 0 0 ∧ getO h'' q4 = .row 1 [.agg [.nils]] ∧ (∃ dd, Bld 4 encQ (q6 + 1) ((l.take i).map qm) h'' dd ∧ getO h'' q6 = .row 1 [.agg [dd]]) ∧ (l.drop i).all chk2 = l.all chk2 ∧ get (po 6) e' = .ptr q6 0 0 ∧ get (po 50) e' = d ∧ get (po 51) e' = .int .i64 (l.length : Nat) ∧ get (po 52) e' = .int .i64 (i : Nat))
    (fun y e' n' h'' => Hp n h n' h'' ∧ n0 ≤ n' ∧ get (po 4) e' = .ptr q4 0 0 ∧ ∃ dd l', Bld 4 encQ (q6 + 1) l' h'' dd ∧ ((y = .exit 4 ∧ l.all chk2 = true ∧ l' = l.map qm ∧ getO h'' q4 = .row 1 [.agg [.nils]] ∧ getO h'' q6 = .row 1 [.agg [dd]] ∧ get (po 6) e' = .ptr q6 0 0) ∨ (y = .ret ∧ l.all chk2 = false ∧ getO h'' q4 = .row 1 [.agg [dd]] ∧ get (po 5) e' = .int .i64 1)))
    ?_ ?_ ⟨H, Nat.le_refl _, g4, b4, ⟨.nils, .inl ⟨rfl, rfl⟩, b6⟩, rfl, g6, g50, g51, g52⟩
  · rintro e' n' h'' ⟨H, p1, g4, b4, ⟨dd, B, b6⟩, hall, g6, g50, g51, g52⟩
    rw [List.drop_length] at hall
    rw [List.take_length] at B
    unfold l66_2
    simp (disch := first | assumption | omega | (simp (disch := first | assumption | omega) only [sB, Nat.reduceAdd, Nat.reduceLT, Nat.reduceLeDiff, Nat.reduceEqDiff, Nat.reduceMul, ↓reduceIte]; done) | fail) only [sA, ↓reduceIte, Nat.reduceLT, Nat.reduceEqDiff, Nat.reduceAdd, Nat.reduceLeDiff, g51, g52]
    exact ⟨_, _, _, _, rfl, by simp, H.mono (by omega), by omega, by simp (disch := first | assumption | omega | (simp (disch := first | assumption | omega) only [sB, Nat.reduceAdd, Nat.reduceLT, Nat.reduceLeDiff, Nat.reduceEqDiff, Nat.reduceMul, ↓reduceIte]; done) | fail) only [sA, ↓reduceIte, Nat.reduceLT, Nat.reduceEqDiff, Nat.reduceAdd, Nat.reduceLeDiff, g4], dd, _, B, .inl ⟨rfl, hall.symm, rfl, b4, b6, by simp (disch := first | assumption | omega | (simp (disch := first | assumption | omega) only [sB, Nat.reduceAdd, Nat.reduceLT, Nat.reduceLeDiff, Nat.reduceEqDiff, Nat.reduceMul, ↓reduceIte]; done) | fail) only [sA, ↓reduceIte, Nat.reduceLT, Nat.reduceEqDiff, Nat.reduceAdd, Nat.reduceLeDiff, g6]⟩⟩
  · rintro i e' n' h'' hi ⟨H, p1, g4, b4, ⟨dd, B, b6⟩, hall, g6, g50, g51, g52⟩
    rw [List.drop_eq_getElem_cons hi, List.all_cons] at hall
    have hn := H.le
    have S' := S.mono H (Nat.le_refl _)
    have s2 := S'.idx
    have s3 := S'.okD
    have s4 := fun m => S'.ld h'' (fun _ _ => rfl) m i hi
    have hcx := List.all_eq_true.1 hc l[i] (List.getElem_mem hi)
    have htk : (l.take (i + 1)).map qm = (l.take i).map qm ++ [qm l[i]] := by
      rw [List.take_succ_eq_append_getElem hi, List.map_append]; rfl
    have hG : ∀ m, n' ≤ m → Gd m h'' := fun m hm => H.good' hm
    generalize hW : l[i] = W at hall s4 hcx htk
    obtain ⟨⟨an, av⟩, ⟨bn, bv⟩⟩ := W
    unfold chk1 at hcx
    rw [Bool.and_eq_true, Bool.and_eq_true] at hcx
    have ra : Lev.right ⟨an, av.el⟩ = true := hcx.1.1
    have rb : Lev.right ⟨bn, bv.el⟩ = true := hcx.1.2
    simp only [encM] at s4
    have c1 : ∀ m h, Gd m h → callFn (LX (cFk kS Go.Proofs.Try.prog)) m h [(D.agg [.int .i64 (an), slD 2 encV (av)])] (cFk kS Go.Proofs.Try.prog 36) = .ok (D.tup [.agg [.int .i64 (Lev.nrm ⟨an, av.el⟩).1.n, slD 2 encV (Sl.app (Lev.nrm ⟨an, av.el⟩).1.v)], .int .i64 (Lev.nrm ⟨an, av.el⟩).2]) m h := fun m h hg => lvNormA m h hg an _ _ _ (svV av)
    have c2 : ∀ m h, Gd m h → callFn (LX (cFk kS Go.Proofs.Try.prog)) m h [(D.agg [.int .i64 (bn), slD 2 encV (bv)])] (cFk kS Go.Proofs.Try.prog 36) = .ok (D.tup [.agg [.int .i64 (Lev.nrm ⟨bn, bv.el⟩).1.n, slD 2 encV (Sl.app (Lev.nrm ⟨bn, bv.el⟩).1.v)], .int .i64 (Lev.nrm ⟨bn, bv.el⟩).2]) m h := fun m h hg => lvNormA m h hg bn _ _ _ (svV bv)
    simp only [nrm_right ra] at c1
    simp only [nrm_right rb] at c2
    have e1 : chk2 ⟨⟨an, av⟩, ⟨bn, bv⟩⟩ = decide ((Lev.norm ⟨bn, bv.el⟩).v.length = 0 ∨ ((Lev.norm ⟨bn, bv.el⟩).v.length = 1 ∧ (Lev.norm ⟨bn, bv.el⟩).n = 0)) := rfl
    have e2 : qm ⟨⟨an, av⟩, ⟨bn, bv⟩⟩ = (match (Lev.norm ⟨bn, bv.el⟩).v with
      | [] => ⟨Lev.norm ⟨an, av.el⟩, -1, (Lev.norm ⟨bn, bv.el⟩).n⟩
      | p :: _ => ⟨Lev.norm ⟨an, av.el⟩, p.1, p.2⟩) := rfl
    rw [e1] at hall
    rw [e2] at htk
    have hlv := (right_iff.1 (right_norm rb)).2.1
    generalize Lev.norm ⟨an, av.el⟩ = MA at c1 htk
    generalize Lev.norm ⟨bn, bv.el⟩ = MB at c2 htk hall hlv
    obtain ⟨An, Av⟩ := MA
    obtain ⟨Bn, Bv⟩ := MB
    replace hlv : Bv.length ≤ 64 := hlv
    have HB : Hp n h (n' + 23) ((n' + 22, (Ob.row 2 [.agg [.int .i64 (Bn), slD 2 encV (Sl.app Bv)]])) :: (n' + 12, (Ob.row 2 [.agg [.int .i64 (An), slD 2 encV (Sl.app Av)]])) :: (n' + 3, .row 4 [encM ⟨⟨an, av⟩, ⟨bn, bv⟩⟩]) :: h'') := ((H.box (r := n' + 3) (m := n' + 4) (by omega) (by omega) (flatM ⟨⟨an, av⟩, ⟨bn, bv⟩⟩)).box (r := n' + 12) (m := n' + 13) (by omega) (by omega) (flatL ⟨An, Sl.app Av⟩)).box (r := n' + 22) (m := n' + 23) (by omega) (by omega) (flatL ⟨Bn, Sl.app Bv⟩)
    have BB : Bld 4 encQ (q6 + 1) ((l.take i).map qm) ((n' + 22, (Ob.row 2 [.agg [.int .i64 (Bn), slD 2 encV (Sl.app Bv)]])) :: (n' + 12, (Ob.row 2 [.agg [.int .i64 (An), slD 2 encV (Sl.app Av)]])) :: (n' + 3, .row 4 [encM ⟨⟨an, av⟩, ⟨bn, bv⟩⟩]) :: h'') dd := ((B.consz (B.off (H.good n' (Nat.le_refl _)) (by omega))).consz (B.off (H.good n' (Nat.le_refl _)) (by omega))).consz (B.off (H.good n' (Nat.le_refl _)) (by omega))
    have hd1 := B.okD
    have hlen : ((l.take i).map qm).length ≤ 2000 := by rw [List.length_map, List.length_take]; omega
    have bb4 : getO ((n' + 22, (Ob.row 2 [.agg [.int .i64 (Bn), slD 2 encV (Sl.app Bv)]])) :: (n' + 12, (Ob.row 2 [.agg [.int .i64 (An), slD 2 encV (Sl.app Av)]])) :: (n' + 3, .row 4 [encM ⟨⟨an, av⟩, ⟨bn, bv⟩⟩]) :: h'') q4 = .row 1 [.agg [.nils]] := getO_keep (getO_keep (getO_keep b4 (by omega)) (by omega)) (by omega)
    have bb6 : getO ((n' + 22, (Ob.row 2 [.agg [.int .i64 (Bn), slD 2 encV (Sl.app Bv)]])) :: (n' + 12, (Ob.row 2 [.agg [.int .i64 (An), slD 2 encV (Sl.app Av)]])) :: (n' + 3, .row 4 [encM ⟨⟨an, av⟩, ⟨bn, bv⟩⟩]) :: h'') q6 = .row 1 [.agg [dd]] := getO_keep (getO_keep (getO_keep b6 (by omega)) (by omega)) (by omega)
    have put : ∀ (on less : Int), ∃ (D' : Nat → D) (H' : Nat → Hps), ∀ m, n' + 23 ≤ m → appD m ((n' + 22, (Ob.row 2 [.agg [.int .i64 (Bn), slD 2 encV (Sl.app Bv)]])) :: (n' + 12, (Ob.row 2 [.agg [.int .i64 (An), slD 2 encV (Sl.app Av)]])) :: (n' + 3, .row 4 [.agg [.int .i64 an, slD 2 encV av, .int .i64 bn, slD 2 encV bv]]) :: h'') 4 48 dd (.ok 4 [.agg [.int .i64 An, slD 2 encV (Sl.app Av), .int .i64 on, .int .i64 less]]) = .ok (D' m) m (H' m) ∧
        (one (D' m) = true ∧ getO (H' m) q6 = .row 1 [.agg [dd]] ∧ Hp n h (m + 1) (setO (H' m) q6 (.row 1 [.agg [D' m]])) ∧ getO (setO (H' m) q6 (.row 1 [.agg [D' m]])) q4 = .row 1 [.agg [.nils]] ∧ getO (setO (H' m) q6 (.row 1 [.agg [D' m]])) q6 = .row 1 [.agg [D' m]] ∧ Bld 4 encQ (q6 + 1) ((l.take i).map qm ++ [⟨⟨An, Av⟩, on, less⟩]) (setO (H' m) q6 (.row 1 [.agg [D' m]])) (D' m)) := by
      intro on less
      obtain ⟨D', H', AA⟩ := app_bldx (b := 48) BB HB (by omega) (by omega) lowQ [⟨⟨An, Av⟩, on, less⟩] (by show (_ + 1) * 48 ≤ _; omega)
      refine ⟨D', H', fun m hm => ?_⟩
      obtain ⟨A1, A2, A3, A4, _⟩ := AA m hm
      have h6 := (A4 q6 (by omega)).trans bb6
      have h4 := (A4 q4 (by omega)).trans bb4
      exact ⟨A1, A2.one, h6, A3.set (by omega) (fun k hk => A2.box1 (A3.good k hk)), getO_set2 h6 h4 (by omega), getO_set1 h6, A2.set h6 (by omega)⟩
    unfold l66_2
    cases Bv with
    | nil =>
      rw [decide_eq_true (by left; rfl), Bool.true_and] at hall
      obtain ⟨D', H', P⟩ := put (-1) Bn
      have P1 := fun m hm => (P m hm).1
      have P2 := fun m hm => (P m hm).2.1
      have P3 := fun m hm => (P m hm).2.2.1
      simp (disch := first | assumption | omega | (simp (disch := first | assumption | omega) only [sB, Nat.reduceAdd, Nat.reduceLT, Nat.reduceLeDiff, Nat.reduceEqDiff, Nat.reduceMul, ↓reduceIte, hG, gd_lev, gd_zero, gd_m, app_el, List.length_nil, P2]; done) | fail) only [sA, ↓reduceIte, Nat.reduceLT, Nat.reduceEqDiff, Nat.reduceAdd, Nat.reduceLeDiff, g4, g6, g50, g51, g52, s2, s3, s4, c1, c2, b4, b6, hd1, P1, P3, hG, gd_lev, gd_zero, gd_m, app_el, List.length_nil, P2]
      refine ⟨_, _, _, _, rfl, .inl ⟨rfl, (P _ (by omega)).2.2.2.1.mono (by omega), by omega, by simp (disch := first | assumption | omega | (simp (disch := first | assumption | omega) only [sB, Nat.reduceAdd, Nat.reduceLT, Nat.reduceLeDiff, Nat.reduceEqDiff, Nat.reduceMul, ↓reduceIte]; done) | fail) only [sA, ↓reduceIte, Nat.reduceLT, Nat.reduceEqDiff, Nat.reduceAdd, Nat.reduceLeDiff, g4], (P _ (by omega)).2.2.2.2.1, ⟨_, ?_, (P _ (by omega)).2.2.2.2.2.1⟩, hall, by simp (disch := first | assumption | omega | (simp (disch := first | assumption | omega) only [sB, Nat.reduceAdd, Nat.reduceLT, Nat.reduceLeDiff, Nat.reduceEqDiff, Nat.reduceMul, ↓reduceIte]; done) | fail) only [sA, ↓reduceIte, Nat.reduceLT, Nat.reduceEqDiff, Nat.reduceAdd, Nat.reduceLeDiff, g6], by simp (disch := first | assumption | omega | (simp (disch := first | assumption | omega) only [sB, Nat.reduceAdd, Nat.reduceLT, Nat.reduceLeDiff, Nat.reduceEqDiff, Nat.reduceMul, ↓reduceIte]; done) | fail) only [sA, ↓reduceIte, Nat.reduceLT, Nat.reduceEqDiff, Nat.reduceAdd, Nat.reduceLeDiff, g50], by simp (disch := first | assumption | omega | (simp (disch := first | assumption | omega) only [sB, Nat.reduceAdd, Nat.reduceLT, Nat.reduceLeDiff, Nat.reduceEqDiff, Nat.reduceMul, ↓reduceIte]; done) | fail) only [sA, ↓reduceIte, Nat.reduceLT, Nat.reduceEqDiff, Nat.reduceAdd, Nat.reduceLeDiff, g51], by simp (disch := first | assumption | omega | (simp (disch := first | assumption | omega) only [sB, Nat.reduceAdd, Nat.reduceLT, Nat.reduceLeDiff, Nat.reduceEqDiff, Nat.reduceMul, ↓reduceIte]; done) | fail) only [sA, ↓reduceIte, Nat.reduceLT, Nat.reduceEqDiff, Nat.reduceAdd, Nat.reduceLeDiff]⟩⟩
      rw [htk]
      exact (P _ (by omega)).2.2.2.2.2.2
    | cons p t =>
      obtain ⟨pv, pd⟩ := p
      by_cases y1 : t = [] ∧ Bn = 0
      · obtain ⟨rfl, rfl⟩ := y1
        rw [decide_eq_true (by right; exact ⟨rfl, rfl⟩), Bool.true_and] at hall
        obtain ⟨D', H', P⟩ := put pv pd
        have P1 := fun m hm => (P m hm).1
        have P2 := fun m hm => (P m hm).2.1
        have P3 := fun m hm => (P m hm).2.2.1
        simp (disch := first | assumption | omega | (simp (disch := first | assumption | omega) only [sB, Nat.reduceAdd, Nat.reduceLT, Nat.reduceLeDiff, Nat.reduceEqDiff, Nat.reduceMul, ↓reduceIte, hG, gd_lev, gd_zero, gd_m, app_el, List.length_nil, List.length_cons, P2]; done) | fail) only [sA, ↓reduceIte, Nat.reduceLT, Nat.reduceEqDiff, Nat.reduceAdd, Nat.reduceLeDiff, g4, g6, g50, g51, g52, s2, s3, s4, c1, c2, b4, b6, hd1, P1, P3, encV, List.getElem_cons_zero, hG, gd_lev, gd_zero, gd_m, app_el, List.length_nil, List.length_cons, P2]
        refine ⟨_, _, _, _, rfl, .inl ⟨rfl, (P _ (by omega)).2.2.2.1.mono (by omega), by omega, by simp (disch := first | assumption | omega | (simp (disch := first | assumption | omega) only [sB, Nat.reduceAdd, Nat.reduceLT, Nat.reduceLeDiff, Nat.reduceEqDiff, Nat.reduceMul, ↓reduceIte]; done) | fail) only [sA, ↓reduceIte, Nat.reduceLT, Nat.reduceEqDiff, Nat.reduceAdd, Nat.reduceLeDiff, g4], (P _ (by omega)).2.2.2.2.1, ⟨_, ?_, (P _ (by omega)).2.2.2.2.2.1⟩, hall, by simp (disch := first | assumption | omega | (simp (disch := first | assumption | omega) only [sB, Nat.reduceAdd, Nat.reduceLT, Nat.reduceLeDiff, Nat.reduceEqDiff, Nat.reduceMul, ↓reduceIte]; done) | fail) only [sA, ↓reduceIte, Nat.reduceLT, Nat.reduceEqDiff, Nat.reduceAdd, Nat.reduceLeDiff, g6], by simp (disch := first | assumption | omega | (simp (disch := first | assumption | omega) only [sB, Nat.reduceAdd, Nat.reduceLT, Nat.reduceLeDiff, Nat.reduceEqDiff, Nat.reduceMul, ↓reduceIte]; done) | fail) only [sA, ↓reduceIte, Nat.reduceLT, Nat.reduceEqDiff, Nat.reduceAdd, Nat.reduceLeDiff, g50], by simp (disch := first | assumption | omega | (simp (disch := first | assumption | omega) only [sB, Nat.reduceAdd, Nat.reduceLT, Nat.reduceLeDiff, Nat.reduceEqDiff, Nat.reduceMul, ↓reduceIte]; done) | fail) only [sA, ↓reduceIte, Nat.reduceLT, Nat.reduceEqDiff, Nat.reduceAdd, Nat.reduceLeDiff, g51], by simp (disch := first | assumption | omega | (simp (disch := first | assumption | omega) only [sB, Nat.reduceAdd, Nat.reduceLT, Nat.reduceLeDiff, Nat.reduceEqDiff, Nat.reduceMul, ↓reduceIte]; done) | fail) only [sA, ↓reduceIte, Nat.reduceLT, Nat.reduceEqDiff, Nat.reduceAdd, Nat.reduceLeDiff]⟩⟩
        rw [htk]
        exact (P _ (by omega)).2.2.2.2.2.2
      · rw [decide_eq_false (by
          rintro (h1 | ⟨h1, h2⟩)
          · cases h1
          · exact y1 ⟨List.length_eq_zero_iff.1 (by simpa using h1), h2⟩), Bool.false_and] at hall
        have ho : ∀ q, n' ≤ q → off q dd := fun q hq => B.off (H.good n' (Nat.le_refl _)) hq
        have hE : Hp n h (n' + 23) ((n' + 22, (Ob.row 2 [.agg [.int .i64 (Bn), slD 2 encV (Sl.app ((pv, pd) :: t))]])) :: (n' + 12, (Ob.row 2 [.agg [.int .i64 (An), slD 2 encV (Sl.app Av)]])) :: (n' + 3, .row 4 [encM ⟨⟨an, av⟩, ⟨bn, bv⟩⟩]) :: setO h'' q4 (.row 1 [.agg [dd]])) := (((H.set hq4 (fun k hk => B.box1 (H.good k hk))).box (r := n' + 3) (m := n' + 4) (by omega) (by omega) (flatM ⟨⟨an, av⟩, ⟨bn, bv⟩⟩)).box (r := n' + 12) (m := n' + 13) (by omega) (by omega) (flatL ⟨An, Sl.app Av⟩)).box (r := n' + 22) (m := n' + 23) (by omega) (by omega) (flatL ⟨Bn, Sl.app ((pv, pd) :: t)⟩)
        have BE : Bld 4 encQ (q6 + 1) ((l.take i).map qm) ((n' + 22, (Ob.row 2 [.agg [.int .i64 (Bn), slD 2 encV (Sl.app ((pv, pd) :: t))]])) :: (n' + 12, (Ob.row 2 [.agg [.int .i64 (An), slD 2 encV (Sl.app Av)]])) :: (n' + 3, .row 4 [encM ⟨⟨an, av⟩, ⟨bn, bv⟩⟩]) :: setO h'' q4 (.row 1 [.agg [dd]])) dd := (((B.set (x := .row 1 [.agg [dd]]) b4 (by omega)).consz (ho _ (by omega))).consz (ho _ (by omega))).consz (ho _ (by omega))
        have bE4 : getO ((n' + 22, (Ob.row 2 [.agg [.int .i64 (Bn), slD 2 encV (Sl.app ((pv, pd) :: t))]])) :: (n' + 12, (Ob.row 2 [.agg [.int .i64 (An), slD 2 encV (Sl.app Av)]])) :: (n' + 3, .row 4 [encM ⟨⟨an, av⟩, ⟨bn, bv⟩⟩]) :: setO h'' q4 (.row 1 [.agg [dd]])) q4 = .row 1 [.agg [dd]] := getO_keep (getO_keep (getO_keep (getO_set1 b4) (by omega)) (by omega)) (by omega)
        by_cases y2 : t.length = 0
        · have y3 : ¬ Bn = 0 := fun h => y1 ⟨List.length_eq_zero_iff.1 y2, h⟩
          have y4 : t = [] := List.length_eq_zero_iff.1 y2
          subst y4
          simp (disch := first | assumption | omega | (simp (disch := first | assumption | omega) only [sB, Nat.reduceAdd, Nat.reduceLT, Nat.reduceLeDiff, Nat.reduceEqDiff, Nat.reduceMul, ↓reduceIte, hG, gd_lev, gd_zero, gd_m, app_el, List.length_nil, List.length_cons]; done) | fail) only [sA, ↓reduceIte, Nat.reduceLT, Nat.reduceEqDiff, Nat.reduceAdd, Nat.reduceLeDiff, g4, g6, g50, g51, g52, s2, s3, s4, c1, c2, b4, b6, hd1, y3, hG, gd_lev, gd_zero, gd_m, app_el, List.length_nil, List.length_cons]
          exact ⟨_, _, _, _, rfl, .inr ⟨by simp, hE.mono (by omega), by omega, by simp (disch := first | assumption | omega | (simp (disch := first | assumption | omega) only [sB, Nat.reduceAdd, Nat.reduceLT, Nat.reduceLeDiff, Nat.reduceEqDiff, Nat.reduceMul, ↓reduceIte]; done) | fail) only [sA, ↓reduceIte, Nat.reduceLT, Nat.reduceEqDiff, Nat.reduceAdd, Nat.reduceLeDiff, g4], dd, _, BE, .inr ⟨rfl, hall.symm, bE4, by simp (disch := first | assumption | omega | (simp (disch := first | assumption | omega) only [sB, Nat.reduceAdd, Nat.reduceLT, Nat.reduceLeDiff, Nat.reduceEqDiff, Nat.reduceMul, ↓reduceIte]; done) | fail) only [sA, ↓reduceIte, Nat.reduceLT, Nat.reduceEqDiff, Nat.reduceAdd, Nat.reduceLeDiff]⟩⟩⟩
        · have y5 : ¬ ((t.length : Nat) : Int) + 1 = 0 := by omega
          have y6 : ¬ ((t.length : Nat) : Int) + 1 = 1 := by omega
          simp (disch := first | assumption | omega | (simp (disch := first | assumption | omega) only [sB, Nat.reduceAdd, Nat.reduceLT, Nat.reduceLeDiff, Nat.reduceEqDiff, Nat.reduceMul, ↓reduceIte, hG, gd_lev, gd_zero, gd_m, app_el, List.length_nil, List.length_cons]; done) | fail) only [sA, ↓reduceIte, Nat.reduceLT, Nat.reduceEqDiff, Nat.reduceAdd, Nat.reduceLeDiff, g4, g6, g50, g51, g52, s2, s3, s4, c1, c2, b4, b6, hd1, y5, y6, hG, gd_lev, gd_zero, gd_m, app_el, List.length_nil, List.length_cons]
          exact ⟨_, _, _, _, rfl, .inr ⟨by simp, hE.mono (by omega), by omega, by simp (disch := first | assumption | omega | (simp (disch := first | assumption | omega) only [sB, Nat.reduceAdd, Nat.reduceLT, Nat.reduceLeDiff, Nat.reduceEqDiff, Nat.reduceMul, ↓reduceIte]; done) | fail) only [sA, ↓reduceIte, Nat.reduceLT, Nat.reduceEqDiff, Nat.reduceAdd, Nat.reduceLeDiff, g4], dd, _, BE, .inr ⟨rfl, hall.symm, bE4, by simp (disch := first | assumption | omega | (simp (disch := first | assumption | omega) only [sB, Nat.reduceAdd, Nat.reduceLT, Nat.reduceLeDiff, Nat.reduceEqDiff, Nat.reduceMul, ↓reduceIte]; done) | fail) only [sA, ↓reduceIte, Nat.reduceLT, Nat.reduceEqDiff, Nat.reduceAdd, Nat.reduceLeDiff]⟩⟩⟩

set_option maxHeartbeats 4000000 in
/-- what the program keeps of limits, or why they are none -/
theorem lvAsk (hg : ∀ k, n ≤ k → GoodAt k h) (a : Int) (d : D) (l : List SLim) (ad : Nat → D) (S : Sv 4 encM n h d l ad) (hl : l.length ≤ 2000) :
    ∃ X c, flat1 X = true ∧ (∀ m h', okD m h' X = .ok X m h') ∧ callFn (LX (cFk kS Go.Proofs.Try.prog)) n h [.int .i64 a, d] (cFk kS Go.Proofs.Try.prog 66) = .ok (.tup [.agg [X], .int .i64 c]) n h ∧
      ((l.all (chk1 a) = false ∧ c = 13) ∨ (l.all (chk1 a) = true ∧ l.all chk2 = false ∧ c = 1) ∨ (l.all (chk1 a) = true ∧ l.all chk2 = true ∧ c = 0 ∧ X = slD 4 encQ (Sl.app (l.map qm)))) := by
  have hgn := hg n (Nat.le_refl _)
  have s1 := S.len
  have s3 := S.okD
  have H0 : Hp n h (n + 4) ((n + 3, .row 1 [.agg [.nils]]) :: (n, .row 1 [.agg [.nils]]) :: h) := ((Hp.start hg).box (r := n) (m := n + 1) (by omega) (by omega) (d := .agg [.nils]) rfl).box (r := n + 3) (m := n + 4) (by omega) (by omega) (d := .agg [.nils]) rfl
  have fin : ∀ {l' : List QLim} {dd : D} {n2 q6 : Nat} {h2 : Hps} (c : Int), n ≤ q6 → Hp n h n2 h2 → Bld 4 encQ (q6 + 1) l' h2 dd → ∀ m, n2 ≤ m → finishD n m h2 (.tup [.agg [dd], .int .i64 c]) = .ok (.tup [.agg [slD 4 encQ (Sl.app l')], .int .i64 c]) n h := by
    intro l' dd n2 q6 h2 c hq H2 B m hm
    have F4 := finishD_fz (n := m) (Fz.tup (.cons (Fz.agg (.cons (Fz.bld elemQ (B.wide (show n ≤ q6 + 1 by omega))) .nil)) (.cons ((Fz.of1 (d := .int .i64 c) rfl).mono (show 1 ≤ 4 by omega)) .nil))) (by omega) (H2.mono (m := m) hm).leak
    rw [F4, H2.drop]
  rw [f66_eq]; unfold c66; rw [callFn_eq (by rfl)]
  simp (disch := first | assumption | omega | (simp (disch := first | assumption | omega) only [sB, Nat.reduceAdd, Nat.reduceLT, Nat.reduceLeDiff, Nat.reduceEqDiff, Nat.reduceMul, ↓reduceIte]; done) | fail) only [sA, ↓reduceIte, Nat.reduceLT, Nat.reduceEqDiff, Nat.reduceAdd, Nat.reduceLeDiff, s1, s3]
  generalize hr : LX (cFk kS Go.Proofs.Try.prog) (.loop l66_1) _ _ _ = r
  obtain ⟨y, e2, n2, h2, rfl, H2, p2, b4, b6, q⟩ := ask1 n h a d l ad hl (q4 := n) (q6 := n + 3) hr (H0.mono (by omega)) S (by omega) (by simp (disch := first | assumption | omega | (simp (disch := first | assumption | omega) only [sB, Nat.reduceAdd, Nat.reduceLT, Nat.reduceLeDiff, Nat.reduceEqDiff, Nat.reduceMul, ↓reduceIte]; done) | fail) only [sA, ↓reduceIte, Nat.reduceLT, Nat.reduceEqDiff, Nat.reduceAdd, Nat.reduceLeDiff]) (by simp (disch := first | assumption | omega | (simp (disch := first | assumption | omega) only [sB, Nat.reduceAdd, Nat.reduceLT, Nat.reduceLeDiff, Nat.reduceEqDiff, Nat.reduceMul, ↓reduceIte]; done) | fail) only [sA, ↓reduceIte, Nat.reduceLT, Nat.reduceEqDiff, Nat.reduceAdd, Nat.reduceLeDiff]) (by omega) (by omega) (by omega) (by simp (disch := first | assumption | omega | (simp (disch := first | assumption | omega) only [sB, Nat.reduceAdd, Nat.reduceLT, Nat.reduceLeDiff, Nat.reduceEqDiff, Nat.reduceMul, ↓reduceIte]; done) | fail) only [sA, ↓reduceIte, Nat.reduceLT, Nat.reduceEqDiff, Nat.reduceAdd, Nat.reduceLeDiff]) (by simp (disch := first | assumption | omega | (simp (disch := first | assumption | omega) only [sB, Nat.reduceAdd, Nat.reduceLT, Nat.reduceLeDiff, Nat.reduceEqDiff, Nat.reduceMul, ↓reduceIte]; done) | fail) only [sA, ↓reduceIte, Nat.reduceLT, Nat.reduceEqDiff, Nat.reduceAdd, Nat.reduceLeDiff]) (by simp (disch := first | assumption | omega | (simp (disch := first | assumption | omega) only [sB, Nat.reduceAdd, Nat.reduceLT, Nat.reduceLeDiff, Nat.reduceEqDiff, Nat.reduceMul, ↓reduceIte]; done) | fail) only [sA, ↓reduceIte, Nat.reduceLT, Nat.reduceEqDiff, Nat.reduceAdd, Nat.reduceLeDiff]) (by simp (disch := first | assumption | omega | (simp (disch := first | assumption | omega) only [sB, Nat.reduceAdd, Nat.reduceLT, Nat.reduceLeDiff, Nat.reduceEqDiff, Nat.reduceMul, ↓reduceIte]; done) | fail) only [sA, ↓reduceIte, Nat.reduceLT, Nat.reduceEqDiff, Nat.reduceAdd, Nat.reduceLeDiff]) (by simp (disch := first | assumption | omega | (simp (disch := first | assumption | omega) only [sB, Nat.reduceAdd, Nat.reduceLT, Nat.reduceLeDiff, Nat.reduceEqDiff, Nat.reduceMul, ↓reduceIte]; done) | fail) only [sA, ↓reduceIte, Nat.reduceLT, Nat.reduceEqDiff, Nat.reduceAdd, Nat.reduceLeDiff]) (by simp (disch := first | assumption | omega | (simp (disch := first | assumption | omega) only [sB, Nat.reduceAdd, Nat.reduceLT, Nat.reduceLeDiff, Nat.reduceEqDiff, Nat.reduceMul, ↓reduceIte]; done) | fail) only [sA, ↓reduceIte, Nat.reduceLT, Nat.reduceEqDiff, Nat.reduceAdd, Nat.reduceLeDiff]) (by simp (disch := first | assumption | omega | (simp (disch := first | assumption | omega) only [sB, Nat.reduceAdd, Nat.reduceLT, Nat.reduceLeDiff, Nat.reduceEqDiff, Nat.reduceMul, ↓reduceIte]; done) | fail) only [sA, ↓reduceIte, Nat.reduceLT, Nat.reduceEqDiff, Nat.reduceAdd, Nat.reduceLeDiff])
  rcases q with ⟨rfl, hall, k0, k1, k4, k6⟩ | ⟨rfl, hall, k4, k5⟩
  · simp (disch := first | assumption | omega | (simp (disch := first | assumption | omega) only [sB, Nat.reduceAdd, Nat.reduceLT, Nat.reduceLeDiff, Nat.reduceEqDiff, Nat.reduceMul, ↓reduceIte]; done) | fail) only [sA, ↓reduceIte, Nat.reduceLT, Nat.reduceEqDiff, Nat.reduceAdd, Nat.reduceLeDiff, k1, s1, s3]
    generalize hr : LX (cFk kS Go.Proofs.Try.prog) (.loop l66_2) _ _ _ = r
    obtain ⟨y, e3, n3, h3, rfl, H3, p3, m4, dd, l', B, q⟩ := ask2 n h a d l ad hall hl (q4 := n) (q6 := n + 3) hr (H2.mono (by omega)) S (by omega) b4 b6 (by omega) (by omega) (by simp (disch := first | assumption | omega | (simp (disch := first | assumption | omega) only [sB, Nat.reduceAdd, Nat.reduceLT, Nat.reduceLeDiff, Nat.reduceEqDiff, Nat.reduceMul, ↓reduceIte]; done) | fail) only [sA, ↓reduceIte, Nat.reduceLT, Nat.reduceEqDiff, Nat.reduceAdd, Nat.reduceLeDiff, k4]) (by simp (disch := first | assumption | omega | (simp (disch := first | assumption | omega) only [sB, Nat.reduceAdd, Nat.reduceLT, Nat.reduceLeDiff, Nat.reduceEqDiff, Nat.reduceMul, ↓reduceIte]; done) | fail) only [sA, ↓reduceIte, Nat.reduceLT, Nat.reduceEqDiff, Nat.reduceAdd, Nat.reduceLeDiff, k6]) (by simp (disch := first | assumption | omega | (simp (disch := first | assumption | omega) only [sB, Nat.reduceAdd, Nat.reduceLT, Nat.reduceLeDiff, Nat.reduceEqDiff, Nat.reduceMul, ↓reduceIte]; done) | fail) only [sA, ↓reduceIte, Nat.reduceLT, Nat.reduceEqDiff, Nat.reduceAdd, Nat.reduceLeDiff]) (by simp (disch := first | assumption | omega | (simp (disch := first | assumption | omega) only [sB, Nat.reduceAdd, Nat.reduceLT, Nat.reduceLeDiff, Nat.reduceEqDiff, Nat.reduceMul, ↓reduceIte]; done) | fail) only [sA, ↓reduceIte, Nat.reduceLT, Nat.reduceEqDiff, Nat.reduceAdd, Nat.reduceLeDiff]) (by simp (disch := first | assumption | omega | (simp (disch := first | assumption | omega) only [sB, Nat.reduceAdd, Nat.reduceLT, Nat.reduceLeDiff, Nat.reduceEqDiff, Nat.reduceMul, ↓reduceIte]; done) | fail) only [sA, ↓reduceIte, Nat.reduceLT, Nat.reduceEqDiff, Nat.reduceAdd, Nat.reduceLeDiff])
    have hd := B.okD
    rcases q with ⟨rfl, hall2, rfl, b4', b6', m6⟩ | ⟨rfl, hall2, b4', m5⟩
    · have hS : Hp n h n3 (setO h3 n (.row 1 [.agg [dd]])) := H3.set (by omega) (fun k hk => B.box1 (H3.good k hk))
      have BS : Bld 4 encQ (n + 3 + 1) (l.map qm) (setO h3 n (.row 1 [.agg [dd]])) dd := B.set b4' (by omega)
      have bS := getO_set1 (x := .row 1 [.agg [dd]]) b4'
      have F4 := fin 0 (by omega) hS BS
      have hone : one dd = true := B.one
      simp (disch := first | assumption | omega | (simp (disch := first | assumption | omega) only [sB, Nat.reduceAdd, Nat.reduceLT, Nat.reduceLeDiff, Nat.reduceEqDiff, Nat.reduceMul, ↓reduceIte, hone]; done) | fail) only [sA, ↓reduceIte, Nat.reduceLT, Nat.reduceEqDiff, Nat.reduceAdd, Nat.reduceLeDiff, m4, m6, b4', b6', bS, hd, F4, hone]
      refine ⟨slD 4 encQ (Sl.app (l.map qm)), 0, flat1_slD, fun _ _ => okD_slD, rfl, .inr (.inr ⟨hall, hall2, rfl, rfl⟩)⟩
    · have F4 := fin 1 (by omega) H3 B
      simp (disch := first | assumption | omega | (simp (disch := first | assumption | omega) only [sB, Nat.reduceAdd, Nat.reduceLT, Nat.reduceLeDiff, Nat.reduceEqDiff, Nat.reduceMul, ↓reduceIte]; done) | fail) only [sA, ↓reduceIte, Nat.reduceLT, Nat.reduceEqDiff, Nat.reduceAdd, Nat.reduceLeDiff, m4, m5, b4', hd, F4]
      exact ⟨slD 4 encQ (Sl.app l'), 1, flat1_slD, fun _ _ => okD_slD, rfl, .inr (.inl ⟨hall, hall2, rfl⟩)⟩
  · have F4 := fin (l' := []) (dd := .nils) 13 (show n ≤ n + 3 by omega) H2 (.inl ⟨rfl, rfl⟩)
    simp (disch := first | assumption | omega | (simp (disch := first | assumption | omega) only [sB, Nat.reduceAdd, Nat.reduceLT, Nat.reduceLeDiff, Nat.reduceEqDiff, Nat.reduceMul, ↓reduceIte]; done) | fail) only [sA, ↓reduceIte, Nat.reduceLT, Nat.reduceEqDiff, Nat.reduceAdd, Nat.reduceLeDiff, k4, k5, b4, F4]
    exact ⟨slD 4 encQ (Sl.app []), 13, flat1_slD, fun _ _ => okD_slD, rfl, .inl ⟨hall, rfl⟩⟩
end
end Go.Proofs.Ytjagmfgjlfkmgaa
