/- Each operation, run: what it comes to on data is what it comes to in the model. First part. No condition. -/
import Derived.Test.YtdijijblccmfbaaA2
set_option linter.unusedSimpArgs false
set_option linter.unusedVariables false
namespace Go.Proofs.Ytdijijblccmfbaa
open Go

section
variable {P : Program} {RC : Nat → Code → DCode → Prop} {Fb : Nat → Prop} {β : Nat → Bk} {U : Us} {N : Nat} {h : Hps} {w : World}

theorem ev_ok {M : Nat → Prop} {a : Act} {e : Tr} {m : Nat} (E : EnvOk w M β U a.tmps e) (hm : m ≤ a.tmps.size) (x : Operand) : Rep w M β U (a.eval x) (ev e (cO m x)) := by
  cases x with
  | tmp t =>
    by_cases ht : t < m
    · have : cO m (.tmp t) = .s (po t) := if_pos ht
      rw [this]; exact E.2 t (Nat.lt_of_lt_of_le ht hm)
    · have : cO m (.tmp t) = .k .junk := if_neg ht
      rw [this]; exact .junk
  | const v => exact ofV_rep _ _ _ _ v
  | global g => exact .junk
  | func f => exact .fn f #[] #[] [] [] rfl rfl (fun i hi => absurd hi (Nat.not_lt_zero _)) (fun i hi => absurd hi (Nat.not_lt_zero _))

theorem evs_ok {M : Nat → Prop} {a : Act} {e : Tr} {m : Nat} (E : EnvOk w M β U a.tmps e) (hm : m ≤ a.tmps.size) (xs : Array Operand) :
    (xs.map a.eval).size = (evs e (cOs m xs)).length ∧ ∀ i, i < (evs e (cOs m xs)).length → Rep w M β U ((xs.map a.eval).getD i undef) ((evs e (cOs m xs)).getD i .junk) := by
  rw [evs_eq]
  unfold cOs
  refine ⟨by simp, fun i hi => ?_⟩
  have hi' : i < xs.size := by simpa using hi
  have e1 : (xs.map a.eval).getD i undef = a.eval xs[i] := by simp [Array.getD, hi']
  have e2 : (((xs.toList.map (cO m)).map (ev e)).getD i .junk) = ev e (cO m xs[i]) := by simp [List.getD_eq_getElem?_getD, hi']
  rw [e1, e2]
  exact ev_ok E hm _

theorem EnvOk.put {M : Nat → Prop} {tmps : Array Value} {e : Tr} (E : EnvOk w M β U tmps e) {t : Nat} {v : Value} {d : D} (hr : Rep w M β U v d) (ht : t < 2 ^ 20) : EnvOk w M β U (tmps.setIfInBounds t v) (putT (po t) d e) := by
  refine ⟨by simpa using E.1, fun i hi => ?_⟩
  have hi' : i < tmps.size := by simpa using hi
  by_cases e1 : t = i
  · subst e1
    rw [get_put_same]
    have : (tmps.setIfInBounds t v).getD t undef = v := by simp [Array.getD, hi']
    rw [this]; exact hr
  · rw [get_put_ne d (po i) (po t) e (fun h => e1 (po_inj ht (Nat.lt_trans hi' E.1) h.symm))]
    have : (tmps.setIfInBounds t v).getD i undef = tmps.getD i undef := by simp [Array.getD, hi', Array.getElem_setIfInBounds, e1]
    rw [this]; exact E.2 i hi'

/-- an activation's slots behind an operation -/
theorem EnvOk.dst {M : Nat → Prop} {a : Act} {e : Tr} (E : EnvOk w M β U a.tmps e) {m : Nat} (hm : m < 2 ^ 20) {dst : Option Nat} {v : Value} {d : D} (hr : Rep w M β U v d) {dp : Option Po} (hd : cDst m dst = some dp) :
    EnvOk w M β U (a.put dst v).tmps (putE e dp d) := by
  cases dst with
  | none => cases hd; exact E
  | some t =>
    unfold cDst at hd
    simp only at hd
    split at hd
    · rename_i ht
      cases hd
      exact E.put hr (by omega)
    · cases hd

/-! ### a value's cells -/
theorem Rep.oneCell {M : Nat → Prop} {v : Value} {d : D} (hr : Rep w M β U v d) (hd : one d = true) : v.oneCell' = true ∧ v.cells = #[v] := by
  cases hr <;> first | exact ⟨rfl, rfl⟩ | cases hd
theorem cells_one {d : D} (hd : one d = true) : cells d = [d] := by cases d <;> first | rfl | cases hd
/-- known, and no row of results -/
def solid : D → Bool
  | .junk => false
  | .tup _ => false
  | _ => true
theorem Rep.cells {M : Nat → Prop} {v : Value} {d : D} (hr : Rep w M β U v d) (hd : solid d = true) :
    v.cells.size = (cells d).length ∧ ∀ i, i < (Go.Proofs.Ytdijijblccmfbaa.cells d).length → (v.cells.getD i undef).oneCell' = true ∧ Rep w M β U (v.cells.getD i undef) ((Go.Proofs.Ytdijijblccmfbaa.cells d).getD i .junk) := by
  by_cases h1 : one d = true
  · obtain ⟨h2, h3⟩ := hr.oneCell h1
    rw [h3, cells_one h1]
    refine ⟨rfl, fun i hi => ?_⟩
    have : i = 0 := by simp at hi; omega
    subst this
    exact ⟨h2, hr⟩
  · cases hr with
    | agg vs cs hl ho hr => exact ⟨hl, fun i hi => ⟨ho i hi, hr i hi⟩⟩
    | junk => cases hd
    | tup vs cs hl hr => cases hd
    | _ => exact absurd rfl h1

/-! ### steps that leave the tracked heap alone -/
theorem Adv.up (I : Inv RC β U Fb h w) : Adv β U h w β (Ad U N) h w := ⟨rfl, rfl, rfl, Nat.le_refl _, Sub.ad _ _, fun _ _ => rfl, fun _ _ _ => rfl, fun _ _ h => h⟩
theorem Inv.up (I : Inv RC β U Fb h w) : Inv RC β (Ad U N) Fb h w :=
  I.step RC (Adv.up (N := N) I) (fun r _ => .inl ⟨rfl, rfl⟩) I.inj (fun b hb => (I.frm b hb).2)

/-- what an operation comes to -/
def OpOk (P : Program) (RC : Nat → Code → DCode → Prop) (Fb : Nat → Prop) (β : Nat → Bk) (U : Us) (N : Nat) (h : Hps) (w : World) (r : Result Next) (d : D) (h' : Hps) (q : Prop) : Prop :=
  (∃ v, r = .ok (.value v) w ∧ h' = h ∧ Rep w (Mk β Fb h) β U v d) ∨ q ∧ ∃ v w' β', (r = .ok (.value v) w' ∨ (r = .ok .skip w' ∧ v = undef)) ∧ Rep w' (Mk β' Fb h') β' (Ad U N) v d ∧ Inv RC β' (Ad U N) Fb h' w' ∧ Adv β U h w β' (Ad U N) h' w'

theorem OpOk.still (I : Inv RC β U Fb h w) {r : Result Next} {v : Value} {d : D} (hr : r = .ok (.value v) w) (hd : Rep w (Mk β Fb h) β U v d) {q : Prop} : OpOk P RC Fb β U N h w r d h q := .inl ⟨v, hr, rfl, hd⟩
theorem OpOk.gen (I : Inv RC β U Fb h w) {r : Result Next} {d : D} {h' : Hps} {q : Prop} (H : OpOk P RC Fb β U N h w r d h' q) :
    ∃ v w' β', (r = .ok (.value v) w' ∨ (r = .ok .skip w' ∧ v = undef)) ∧ Rep w' (Mk β' Fb h') β' (Ad U N) v d ∧ Inv RC β' (Ad U N) Fb h' w' ∧ Adv β U h w β' (Ad U N) h' w' := by
  rcases H with ⟨v, h1, rfl, h2⟩ | ⟨_, h⟩
  · exact ⟨v, w, β, .inl h1, h2.adv (Adv.up (N := N) I) (Sub.refl _) _ (Sub.ad _ _), I.up, Adv.up I⟩
  · exact h
/-- may it bring a new object, or change one? -/
def newO (o : Oper) : Bool := match o.op with
  | .alloc _ => true
  | .box .. => true
  | .buildSlice .. => true
  | .store .. => true
  | .makeSlice .. => true
  | .makeMap .. => true
  | .mapUpdate .. => true
  | .call c => (match c.callee with | .builtin .append => true | .builtin .delete => true | _ => false)
  | _ => false

/-! ### a new object -/
def upd (β : Nat → Bk) (n : Nat) (B : Bk) : Nat → Bk := fun r => if r = n then B else β r
theorem upd_same (β : Nat → Bk) (n : Nat) (B : Bk) : upd β n B n = B := if_pos rfl
theorem upd_ne (β : Nat → Bk) {n r : Nat} (B : Bk) (hr : r ≠ n) : upd β n B r = β r := if_neg hr

theorem getO_new (I : Inv RC β U Fb h w) (hN : ¬ U N) : getO h N = .none := by
  by_cases hn : getO h N = .none
  · exact hn
  · exact absurd (I.key N hn) hN

/-- a world with one block more -/
structure Grew (w w' : World) (o : Obj) : Prop where
  os : w'.os = w.os
  tape : w'.tape = w.tape
  output : w'.output = w.output
  heap : w'.heap = w.heap.push o

theorem Grew.size {w w' : World} {o : Obj} (g : Grew w w' o) : w'.heap.size = w.heap.size + 1 := by rw [g.heap]; simp
theorem Grew.old {w w' : World} {o : Obj} (g : Grew w w' o) {b : Nat} (hb : b < w.heap.size) : w'.heap[b]? = w.heap[b]? := by rw [g.heap, Array.getElem?_push, if_neg (by omega)]
theorem Grew.new {w w' : World} {o : Obj} (g : Grew w w' o) : w'.heap[w.heap.size]? = some o := by rw [g.heap]; simp
theorem Grew.alloc (w : World) (o : Obj) : Grew w (w.alloc o) o := ⟨rfl, rfl, rfl, rfl⟩

theorem Adv.new (I : Inv RC β U Fb h w) (hN : ¬ U N) {w' : World} {o : Obj} (g : Grew w w' o) (x : Ob) (k C : Nat) : Adv β U h w (upd β N ⟨w.heap.size, k, C⟩) (Ad U N) ((N, x) :: h) w' := by
  refine ⟨g.os, g.tape, g.output, by rw [g.size]; omega, Sub.ad _ _, fun r hr => upd_ne _ _ (fun e => hN (e ▸ hr)), fun b hb _ => g.old hb, fun b hb ht => ?_⟩
  obtain ⟨r, hr, hb'⟩ := ht
  rw [getO_cons] at hr
  by_cases e : N = r
  · subst e; rw [upd_same] at hb'; simp at hb'; omega
  · rw [if_neg e] at hr
    rw [upd_ne _ _ (fun h => e h.symm)] at hb'
    exact ⟨r, hr, hb'⟩

theorem Inv.new (I : Inv RC β U Fb h w) (hN : ¬ U N) {w' : World} {o : Obj} (g : Grew w w' o) (x : Ob) (k C : Nat)
    (hok : ObOk RC w' (Mk (upd β N ⟨w.heap.size, k, C⟩) Fb ((N, x) :: h)) (upd β N ⟨w.heap.size, k, C⟩) (Ad U N) x ⟨w.heap.size, k, C⟩) :
    Inv RC (upd β N ⟨w.heap.size, k, C⟩) (Ad U N) Fb ((N, x) :: h) w' := by
  have hlt : ∀ r, r ≠ N → getO ((N, x) :: h) r ≠ .none → getO h r ≠ .none ∧ (upd β N ⟨w.heap.size, k, C⟩ r) = β r ∧ (β r).b < w.heap.size := by
    intro r hr hg
    rw [getO_cons, if_neg (fun e => hr e.symm)] at hg
    exact ⟨hg, upd_ne _ _ hr, I.lt r hg⟩
  refine I.step RC (Adv.new I hN g x k C) (fun r hr => ?_) (fun r q hr hq e => ?_) (fun b hb ht => ?_)
  · by_cases e : r = N
    · subst e
      refine .inr ⟨.inr rfl, ?_, ?_⟩
      · rw [upd_same, g.size]; exact Nat.lt_succ_self _
      · rw [upd_same, getO_cons, if_pos rfl]; exact hok
    · obtain ⟨h1, h2, h3⟩ := hlt r e hr
      exact .inl ⟨by rw [getO_cons, if_neg (fun h => e h.symm)], g.old h3⟩
  · by_cases e1 : r = N
    · by_cases e2 : q = N
      · rw [e1, e2]
      · obtain ⟨_, h2, h3⟩ := hlt q e2 hq
        rw [e1, upd_same, h2] at e
        simp only at e
        omega
    · obtain ⟨h1, h2, h3⟩ := hlt r e1 hr
      by_cases e2 : q = N
      · rw [e2, upd_same, h2] at e
        simp only at e
        omega
      · obtain ⟨h4, h5, _⟩ := hlt q e2 hq
        rw [h2, h5] at e
        exact I.inj r q h1 h4 e
  · obtain ⟨r, hr, hb'⟩ := ht
    by_cases e : r = N
    · subst e
      rw [upd_same] at hb'
      have := (I.frm b hb).1
      simp only at hb'
      omega
    · obtain ⟨h1, h2, h3⟩ := hlt r e hr
      rw [h2] at hb'
      exact (I.frm b hb).2 ⟨r, h1, hb'⟩

end
end Go.Proofs.Ytdijijblccmfbaa
