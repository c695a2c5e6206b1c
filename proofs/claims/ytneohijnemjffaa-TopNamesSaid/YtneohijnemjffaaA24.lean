/- A region that leaves its order open: run in the order of the text, it tells what every order comes to. First part: over data alone. No condition. -/
import Derived.Test.YtneohijnemjffaaA23
import Derived.OrdersIn
set_option linter.unusedSimpArgs false
set_option linter.unusedVariables false
namespace Go.Proofs.Ytneohijnemjffaa
open Go

def dP : DOper → Option Po
  | .op d _ _ => d
def gP : DOper → Option (Po × Bool)
  | .op _ g _ => g
def oP : DOper → DOp
  | .op _ _ o => o

/-- what one operation of a region comes to: whether it is wanted, its value, the heap, what it touches -/
noncomputable def nxt (call : CallF) (e : Tr) (n : Nat) (h : Hps) (x : DOper) : Bool × D × Hps × List Nat :=
  match want e (gP x) with
  | .ok true => (match opP call e n h (oP x) with
    | .ok d _ h1 => (true, d, h1, touch e n (oP x))
    | .bad => (true, .junk, h, []))
  | _ => (false, .tup [], h, [])
noncomputable def trj (call : CallF) (L : List DOper) (e0 : Tr) (n0 : Nat) (h0 : Hps) : Nat → Tr × Hps
  | 0 => (e0, h0)
  | j + 1 => (match L[j]? with
    | some x => (putE (trj call L e0 n0 h0 j).1 (dP x) (nxt call (trj call L e0 n0 h0 j).1 (n0 + j) (trj call L e0 n0 h0 j).2 x).2.1, (nxt call (trj call L e0 n0 h0 j).1 (n0 + j) (trj call L e0 n0 h0 j).2 x).2.2.1)
    | none => trj call L e0 n0 h0 j)
noncomputable def tT (call : CallF) (L : List DOper) (e0 : Tr) (n0 : Nat) (h0 : Hps) (j : Nat) : List Nat :=
  match L[j]? with
  | some x => (nxt call (trj call L e0 n0 h0 j).1 (n0 + j) (trj call L e0 n0 h0 j).2 x).2.2.2
  | none => []

theorem disj_eq (a b : List Nat) : disj a b = true ↔ ∀ x, x ∈ a → x ∉ b := by
  have hm : ∀ (r : Nat) (l : List Nat), memN r l = true ↔ r ∈ l := by
    intro r l
    induction l with
    | nil => exact ⟨fun h => (by cases h), fun h => (by cases h)⟩
    | cons x l ih =>
      show Bool.rec (motive := fun _ => Bool) (memN r l) true (Nat.beq x r) = true ↔ _
      cases hb : Nat.beq x r with
      | true => have := beq_eq hb; subst this; simp
      | false =>
        have hne : r ≠ x := fun e => by rw [e, Nat.beq_refl] at hb; cases hb
        simp [ih, hne]
  induction a with
  | nil => exact ⟨fun _ x hx => (by cases hx), fun _ => rfl⟩
  | cons x a ih =>
    show Bool.rec (motive := fun _ => Bool) (disj a b) false (memN x b) = true ↔ _
    cases hb : memN x b with
    | true =>
      refine ⟨fun h => (by cases h), fun h => absurd ((hm x b).1 hb) (h x (by simp))⟩
    | false =>
      have hx : x ∉ b := fun h => by rw [(hm x b).2 h] at hb; cases hb
      simp only [ih, List.mem_cons]
      exact ⟨fun h y hy => hy.elim (fun e => e ▸ hx) (h y), fun h y hy => h y (.inr hy)⟩
theorem apartAll_eq (t : List Nat) (ts : List (List Nat)) (un : List Nat) : apartAll t ts un = true ↔ ∀ i, i ∈ un → disj t (nthT ts i) = true := by
  induction un with
  | nil => exact ⟨fun _ i hi => (by cases hi), fun _ => rfl⟩
  | cons x un ih =>
    show Bool.rec (motive := fun _ => Bool) false (apartAll t ts un) (disj t (nthT ts x)) = true ↔ _
    cases hb : disj t (nthT ts x) with
    | true => simp [ih, hb]
    | false => simp [hb]
theorem nthT_cons (a : List Nat) (l : List (List Nat)) : nthT (a :: l) 0 = a ∧ ∀ i, nthT (a :: l) (i + 1) = nthT l i := ⟨rfl, fun _ => rfl⟩

section
variable {call : CallF} {L : List DOper} {e0 : Tr} {n0 : Nat} {h0 : Hps}

/-- what is known of each operation where the run has come through -/
structure Good (call : CallF) (L : List DOper) (un : List (List Nat)) (e0 : Tr) (n0 : Nat) (h0 : Hps) (j : Nat) (x : DOper) : Prop where
  env : (trj call L e0 n0 h0 (j + 1)).1 = putE (trj call L e0 n0 h0 j).1 (dP x) (nxt call (trj call L e0 n0 h0 j).1 (n0 + j) (trj call L e0 n0 h0 j).2 x).2.1
  heap : (trj call L e0 n0 h0 (j + 1)).2 = (nxt call (trj call L e0 n0 h0 j).1 (n0 + j) (trj call L e0 n0 h0 j).2 x).2.2.1
  wnt : want (trj call L e0 n0 h0 j).1 (gP x) = .ok (nxt call (trj call L e0 n0 h0 j).1 (n0 + j) (trj call L e0 n0 h0 j).2 x).1
  no : (nxt call (trj call L e0 n0 h0 j).1 (n0 + j) (trj call L e0 n0 h0 j).2 x).1 = false → (nxt call (trj call L e0 n0 h0 j).1 (n0 + j) (trj call L e0 n0 h0 j).2 x).2.1 = .tup [] ∧ (trj call L e0 n0 h0 (j + 1)).2 = (trj call L e0 n0 h0 j).2 ∧ tT call L e0 n0 h0 j = []
  yes : (nxt call (trj call L e0 n0 h0 j).1 (n0 + j) (trj call L e0 n0 h0 j).2 x).1 = true → tT call L e0 n0 h0 j = touch (trj call L e0 n0 h0 j).1 (n0 + j) (oP x) ∧
    opP call (trj call L e0 n0 h0 j).1 (n0 + j) (trj call L e0 n0 h0 j).2 (oP x) = .ok (nxt call (trj call L e0 n0 h0 j).1 (n0 + j) (trj call L e0 n0 h0 j).2 x).2.1 (n0 + j) (trj call L e0 n0 h0 (j + 1)).2 ∧
    ∀ i, i < j → j - 1 - i ∈ un.getD j [] → ∀ r, r ∈ tT call L e0 n0 h0 j → r ∉ tT call L e0 n0 h0 i

theorem opP_num {call : CallF} {e : Tr} {n : Nat} {h : Hps} {o : DOp} {d : D} {n1 : Nat} {h1 : Hps} (hd : opP call e n h o = .ok d n1 h1) : n1 = n := by
  by_cases hc : notCall o = true
  · have he : opP call e n h o = opD e n h o := by cases o <;> first | rfl | cases hc
    rw [he] at hd
    have := opD_num e n h o
    rw [hd] at this
    exact this
  · cases o <;> first | exact absurd rfl hc | skip
    rename_i f args
    have hd2 : pureC n h (ev e f) (evs e args) (call 0 [] (ev e f) (evs e args)) = .ok d n1 h1 := hd
    cases hcl : call 0 [] (ev e f) (evs e args) with
    | bad => rw [hcl] at hd2; cases hd2
    | ok d2 n2 h2 =>
      rw [hcl] at hd2
      have := (ifR_inv (show ifR (Bool.and (clo 20 (ev e f)) (Bool.and (allL (clo 20) (evs e args)) (clo 20 d2))) (.ok d2 n h) = .ok d n1 h1 from hd2)).2
      cases this
      rfl

theorem draw_good {un : List (List Nat)} {x : Ex} {e' : Tr} {n' : Nat} {h' : Hps} : ∀ (l : List DOper) (s : Nat) (ut : List (List Nat)) (ts : List (List Nat)), L.drop s = l → s + l.length = L.length → un.drop s = ut → (∀ i, i < s → nthT ts (s - 1 - i) = tT call L e0 n0 h0 i) →
    runDraw call l ut ts (trj call L e0 n0 h0 s).1 (n0 + s) (trj call L e0 n0 h0 s).2 = .ok x e' n' h' →
    x = .normal ∧ e' = (trj call L e0 n0 h0 L.length).1 ∧ n' = n0 + L.length ∧ h' = (trj call L e0 n0 h0 L.length).2 ∧ ∀ j y, s ≤ j → L[j]? = some y → Good call L un e0 n0 h0 j y := by
  intro l
  induction l with
  | nil =>
    intro s ut ts hl hs _ _ hd
    have hs : s = L.length := by simpa using hs
    subst hs
    cases hd
    exact ⟨rfl, rfl, rfl, rfl, fun j y hj hy => by have := (List.getElem?_eq_some_iff.1 hy).1; omega⟩
  | cons y l ih =>
    intro s ut ts hl hs hut hts hd
    cases ut with
    | nil => cases hd
    | cons u ut =>
    have hy : L[s]? = some y := by
      have : (L.drop s)[0]? = some y := by rw [hl]; rfl
      simpa using this
    have hus : un.getD s [] = u := by
      have : (un.drop s)[0]? = some u := by rw [hut]; rfl
      simp only [List.getElem?_drop, Nat.add_zero] at this
      simp [List.getD_eq_getElem?_getD, this]
    have hl' : L.drop (s + 1) = l := by rw [← List.tail_drop, hl]; rfl
    have hut' : un.drop (s + 1) = ut := by rw [← List.tail_drop, hut]; rfl
    have hs' : s + 1 + l.length = L.length := by rw [← hs, List.length_cons]; omega
    obtain ⟨dst, g, o⟩ := y
    have henv : (trj call L e0 n0 h0 (s + 1)).1 = putE (trj call L e0 n0 h0 s).1 dst (nxt call (trj call L e0 n0 h0 s).1 (n0 + s) (trj call L e0 n0 h0 s).2 (.op dst g o)).2.1 := by
      show (match L[s]? with | some x => _ | none => _ : Tr × Hps).1 = _
      rw [hy]; rfl
    have hheap : (trj call L e0 n0 h0 (s + 1)).2 = (nxt call (trj call L e0 n0 h0 s).1 (n0 + s) (trj call L e0 n0 h0 s).2 (.op dst g o)).2.2.1 := by
      show (match L[s]? with | some x => _ | none => _ : Tr × Hps).2 = _
      rw [hy]
    have htT : tT call L e0 n0 h0 s = (nxt call (trj call L e0 n0 h0 s).1 (n0 + s) (trj call L e0 n0 h0 s).2 (.op dst g o)).2.2.2 := by
      unfold tT; rw [hy]
    have hd1 : stepQ call (runDraw call l ut) ts (trj call L e0 n0 h0 s).1 (n0 + s) (trj call L e0 n0 h0 s).2 u dst o (want (trj call L e0 n0 h0 s).1 g) = .ok x e' n' h' := hd
    have hts' : ∀ T, T = tT call L e0 n0 h0 s → ∀ i, i < s + 1 → nthT (T :: ts) (s + 1 - 1 - i) = tT call L e0 n0 h0 i := by
      intro T hT i hi
      by_cases e : i = s
      · subst e
        rw [show i + 1 - 1 - i = 0 by omega]
        exact hT
      · rw [show s + 1 - 1 - i = (s - 1 - i) + 1 by omega]
        exact hts i (by omega)
    have fin : Good call L un e0 n0 h0 s (.op dst g o) → (x = .normal ∧ e' = (trj call L e0 n0 h0 L.length).1 ∧ n' = n0 + L.length ∧ h' = (trj call L e0 n0 h0 L.length).2 ∧ ∀ j y, s + 1 ≤ j → L[j]? = some y → Good call L un e0 n0 h0 j y) →
        x = .normal ∧ e' = (trj call L e0 n0 h0 L.length).1 ∧ n' = n0 + L.length ∧ h' = (trj call L e0 n0 h0 L.length).2 ∧ ∀ j y, s ≤ j → L[j]? = some y → Good call L un e0 n0 h0 j y := by
      rintro hg ⟨h1, h2, h3, h4, h5⟩
      refine ⟨h1, h2, h3, h4, fun j y hj hy2 => ?_⟩
      by_cases e : j = s
      · subst e
        rw [hy] at hy2
        cases hy2
        exact hg
      · exact h5 j y (by omega) hy2
    cases hw : want (trj call L e0 n0 h0 s).1 g with
    | bad => rw [hw] at hd1; cases hd1
    | ok b =>
      rw [hw] at hd1
      cases b with
      | false =>
        have hn : nxt call (trj call L e0 n0 h0 s).1 (n0 + s) (trj call L e0 n0 h0 s).2 (.op dst g o) = (false, .tup [], (trj call L e0 n0 h0 s).2, []) := by
          unfold nxt; simp only [gP, hw]
        rw [hn] at henv hheap htT
        replace hd1 : runDraw call l ut ([] :: ts) (putE (trj call L e0 n0 h0 s).1 dst (.tup [])) (n0 + s + 1) (trj call L e0 n0 h0 s).2 = .ok x e' n' h' := hd1
        refine fin ⟨by rw [hn]; exact henv, by rw [hn]; exact hheap, by rw [hn]; exact hw, fun _ => ⟨by rw [hn], hheap, htT⟩, fun e => by rw [hn] at e; cases e⟩ (ih (s + 1) ut ([] :: ts) hl' hs' hut' (hts' [] htT.symm) ?_)
        rw [henv, hheap]
        exact hd1
      | true =>
        replace hd1 : Bool.rec (motive := fun _ => Re) .bad (afterOp (runDraw call l ut (touch (trj call L e0 n0 h0 s).1 (n0 + s) o :: ts)) (trj call L e0 n0 h0 s).1 dst (opP call (trj call L e0 n0 h0 s).1 (n0 + s) (trj call L e0 n0 h0 s).2 o))
          (apartAll (touch (trj call L e0 n0 h0 s).1 (n0 + s) o) ts u) = .ok x e' n' h' := hd1
        cases hap : apartAll (touch (trj call L e0 n0 h0 s).1 (n0 + s) o) ts u with
        | false => rw [hap] at hd1; cases hd1
        | true =>
          rw [hap] at hd1
          cases hop : opP call (trj call L e0 n0 h0 s).1 (n0 + s) (trj call L e0 n0 h0 s).2 o with
          | bad => rw [hop] at hd1; cases hd1
          | ok d n1 h1 =>
            rw [hop] at hd1
            have hnum := opP_num hop
            subst hnum
            replace hd1 : runDraw call l ut (touch (trj call L e0 n0 h0 s).1 (n0 + s) o :: ts) (putE (trj call L e0 n0 h0 s).1 dst d) (n0 + s + 1) h1 = .ok x e' n' h' := hd1
            have hn : nxt call (trj call L e0 n0 h0 s).1 (n0 + s) (trj call L e0 n0 h0 s).2 (.op dst g o) = (true, d, h1, touch (trj call L e0 n0 h0 s).1 (n0 + s) o) := by
              unfold nxt; simp only [gP, oP, hw, hop]
            rw [hn] at henv hheap htT
            refine fin ⟨by rw [hn]; exact henv, by rw [hn]; exact hheap, by rw [hn]; exact hw, (fun e => by rw [hn] at e; cases e), fun _ => ⟨htT, by rw [hn, hheap]; exact hop, fun i hi hu r hr => ?_⟩⟩ (ih (s + 1) ut _ hl' hs' hut' (hts' _ htT.symm) ?_)
            · rw [hus] at hu
              have := (apartAll_eq _ _ _).1 hap _ hu
              rw [hts i hi] at this
              rw [show tT call L e0 n0 h0 s = touch (trj call L e0 n0 h0 s).1 (n0 + s) o from htT] at hr
              exact (disj_eq _ _).1 this r hr
            · rw [henv, hheap]
              exact hd1
end
end Go.Proofs.Ytneohijnemjffaa
