/- A region that leaves its order open: run in the order of the text, it tells what every order comes to. First part: over data alone. No condition. -/
import Derived.Test.YtdijijblccmfbaaA23
import Derived.OrdersIn
set_option linter.unusedSimpArgs false
set_option linter.unusedVariables false
namespace Go.Proofs.Ytdijijblccmfbaa
open Go

def dP : DOper → Option Po
  | .op d _ _ => d
def gP : DOper → Option (Po × Bool)
  | .op _ g _ => g
def oP : DOper → DOp
  | .op _ _ o => o

/-- what one operation of a region comes to: whether it is wanted, its value, the heap, what it touches -/
noncomputable def nxt (call : CallF) (b : Bool) (e : Tr) (n : Nat) (h : Hps) (x : DOper) : Bool × D × Hps × List Nat :=
  match want e (gP x) with
  | .ok true => (match opP call b e n h (oP x) with
    | .ok d _ h1 => (true, d, h1, touchR e n (oP x) h h1)
    | .bad => (true, .junk, h, []))
  | _ => (false, .tup [], h, [])
/-- where the numbers of an operation begin -/
def nm (sd n0 j : Nat) : Nat := n0 + j * sd
theorem nm_succ (sd n0 j : Nat) : nm sd n0 (j + 1) = nm sd n0 j + sd := by unfold nm; rw [Nat.add_mul, Nat.one_mul, Nat.add_assoc]
noncomputable def trj (sd : Nat) (call : CallF) (bar : List Bool) (L : List DOper) (e0 : Tr) (n0 : Nat) (h0 : Hps) : Nat → Tr × Hps
  | 0 => (e0, h0)
  | j + 1 => (match L[j]? with
    | some x => (putE (trj sd call bar L e0 n0 h0 j).1 (dP x) (nxt call (bar.getD j false) (trj sd call bar L e0 n0 h0 j).1 (nm sd n0 j) (trj sd call bar L e0 n0 h0 j).2 x).2.1, (nxt call (bar.getD j false) (trj sd call bar L e0 n0 h0 j).1 (nm sd n0 j) (trj sd call bar L e0 n0 h0 j).2 x).2.2.1)
    | none => trj sd call bar L e0 n0 h0 j)
noncomputable def tT (sd : Nat) (call : CallF) (bar : List Bool) (L : List DOper) (e0 : Tr) (n0 : Nat) (h0 : Hps) (j : Nat) : List Nat :=
  match L[j]? with
  | some x => (nxt call (bar.getD j false) (trj sd call bar L e0 n0 h0 j).1 (nm sd n0 j) (trj sd call bar L e0 n0 h0 j).2 x).2.2.2
  | none => []

theorem disj_eq (a b : List Nat) : disj a b = true ↔ ∀ x, x ∈ a → x ∉ b := by
  have hm : ∀ (r : Nat) (l : List Nat), memN r l = true ↔ r ∈ l := by
    intro r l
    induction l with
    | nil => exact ⟨fun h => (by cases h), fun h => (by cases h)⟩
    | cons x l ih =>
      show Bool.rec (motive := fun _ => Bool) (memN r l) true (Nat.beq x r) = true ↔ _
      cases hb : Nat.beq x r with
      | true => have := beq_eq hb; subst this; simp
      | false =>
        have hne : r ≠ x := fun e => by rw [e, Nat.beq_refl] at hb; cases hb
        simp [ih, hne]
  induction a with
  | nil => exact ⟨fun _ x hx => (by cases hx), fun _ => rfl⟩
  | cons x a ih =>
    show Bool.rec (motive := fun _ => Bool) (disj a b) false (memN x b) = true ↔ _
    cases hb : memN x b with
    | true =>
      refine ⟨fun h => (by cases h), fun h => absurd ((hm x b).1 hb) (h x (by simp))⟩
    | false =>
      have hx : x ∉ b := fun h => by rw [(hm x b).2 h] at hb; cases hb
      simp only [ih, List.mem_cons]
      exact ⟨fun h y hy => hy.elim (fun e => e ▸ hx) (h y), fun h y hy => h y (.inr hy)⟩
theorem apartAll_eq (t : List Nat) (ts : List (List Nat)) (un : List Nat) : apartAll t ts un = true ↔ ∀ i, i ∈ un → disj t (nthT ts i) = true := by
  induction un with
  | nil => exact ⟨fun _ i hi => (by cases hi), fun _ => rfl⟩
  | cons x un ih =>
    show Bool.rec (motive := fun _ => Bool) false (apartAll t ts un) (disj t (nthT ts x)) = true ↔ _
    cases hb : disj t (nthT ts x) with
    | true => simp [ih, hb]
    | false => simp [hb]
theorem nthT_cons (a : List Nat) (l : List (List Nat)) : nthT (a :: l) 0 = a ∧ ∀ i, nthT (a :: l) (i + 1) = nthT l i := ⟨rfl, fun _ => rfl⟩

section
variable {sd : Nat} {call : CallF} {bar : List Bool} {L : List DOper} {e0 : Tr} {n0 : Nat} {h0 : Hps}

/-- what is known of each operation where the run has come through -/
structure Good (sd : Nat) (call : CallF) (bar : List Bool) (L : List DOper) (un : List (List Nat)) (e0 : Tr) (n0 : Nat) (h0 : Hps) (j : Nat) (x : DOper) : Prop where
  env : (trj sd call bar L e0 n0 h0 (j + 1)).1 = putE (trj sd call bar L e0 n0 h0 j).1 (dP x) (nxt call (bar.getD j false) (trj sd call bar L e0 n0 h0 j).1 (nm sd n0 j) (trj sd call bar L e0 n0 h0 j).2 x).2.1
  heap : (trj sd call bar L e0 n0 h0 (j + 1)).2 = (nxt call (bar.getD j false) (trj sd call bar L e0 n0 h0 j).1 (nm sd n0 j) (trj sd call bar L e0 n0 h0 j).2 x).2.2.1
  wnt : want (trj sd call bar L e0 n0 h0 j).1 (gP x) = .ok (nxt call (bar.getD j false) (trj sd call bar L e0 n0 h0 j).1 (nm sd n0 j) (trj sd call bar L e0 n0 h0 j).2 x).1
  no : (nxt call (bar.getD j false) (trj sd call bar L e0 n0 h0 j).1 (nm sd n0 j) (trj sd call bar L e0 n0 h0 j).2 x).1 = false → (nxt call (bar.getD j false) (trj sd call bar L e0 n0 h0 j).1 (nm sd n0 j) (trj sd call bar L e0 n0 h0 j).2 x).2.1 = .tup [] ∧ (trj sd call bar L e0 n0 h0 (j + 1)).2 = (trj sd call bar L e0 n0 h0 j).2 ∧ tT sd call bar L e0 n0 h0 j = []
  yes : (nxt call (bar.getD j false) (trj sd call bar L e0 n0 h0 j).1 (nm sd n0 j) (trj sd call bar L e0 n0 h0 j).2 x).1 = true → tT sd call bar L e0 n0 h0 j = touchR (trj sd call bar L e0 n0 h0 j).1 (nm sd n0 j) (oP x) (trj sd call bar L e0 n0 h0 j).2 (trj sd call bar L e0 n0 h0 (j + 1)).2 ∧
    (∃ n1, n1 < nm sd n0 j + sd ∧ opP call (bar.getD j false) (trj sd call bar L e0 n0 h0 j).1 (nm sd n0 j) (trj sd call bar L e0 n0 h0 j).2 (oP x) = .ok (nxt call (bar.getD j false) (trj sd call bar L e0 n0 h0 j).1 (nm sd n0 j) (trj sd call bar L e0 n0 h0 j).2 x).2.1 n1 (trj sd call bar L e0 n0 h0 (j + 1)).2) ∧
    ∀ i, i < j → j - 1 - i ∈ un.getD j [] → ∀ r, r ∈ tT sd call bar L e0 n0 h0 j → r ∉ tT sd call bar L e0 n0 h0 i

theorem draw_good {un : List (List Nat)} {x : Ex} {e' : Tr} {n' : Nat} {h' : Hps} : ∀ (l : List DOper) (s : Nat) (ut : List (List Nat)) (bt : List Bool) (ts : List (List Nat)), L.drop s = l → s + l.length = L.length → un.drop s = ut → bar.drop s = bt → (∀ i, i < s → nthT ts (s - 1 - i) = tT sd call bar L e0 n0 h0 i) →
    runDraw sd call l ut bt ts (trj sd call bar L e0 n0 h0 s).1 (nm sd n0 s) (trj sd call bar L e0 n0 h0 s).2 = .ok x e' n' h' →
    x = .normal ∧ e' = (trj sd call bar L e0 n0 h0 L.length).1 ∧ n' = nm sd n0 L.length ∧ h' = (trj sd call bar L e0 n0 h0 L.length).2 ∧ ∀ j y, s ≤ j → L[j]? = some y → Good sd call bar L un e0 n0 h0 j y := by
  intro l
  induction l with
  | nil =>
    intro s ut bt ts hl hs _ _ _ hd
    have hs : s = L.length := by simpa using hs
    subst hs
    cases hd
    exact ⟨rfl, rfl, rfl, rfl, fun j y hj hy => by have := (List.getElem?_eq_some_iff.1 hy).1; omega⟩
  | cons y l ih =>
    intro s ut bt ts hl hs hut hbt hts hd
    cases ut with
    | nil => cases hd
    | cons u ut =>
    cases bt with
    | nil => cases hd
    | cons b bt =>
    have hy : L[s]? = some y := by
      have : (L.drop s)[0]? = some y := by rw [hl]; rfl
      simpa using this
    have hus : un.getD s [] = u := by
      have : (un.drop s)[0]? = some u := by rw [hut]; rfl
      simp only [List.getElem?_drop, Nat.add_zero] at this
      simp [List.getD_eq_getElem?_getD, this]
    have hbs : bar.getD s false = b := by
      have : (bar.drop s)[0]? = some b := by rw [hbt]; rfl
      simp only [List.getElem?_drop, Nat.add_zero] at this
      simp [List.getD_eq_getElem?_getD, this]
    have hbt' : bar.drop (s + 1) = bt := by rw [← List.tail_drop, hbt]; rfl
    have hl' : L.drop (s + 1) = l := by rw [← List.tail_drop, hl]; rfl
    have hut' : un.drop (s + 1) = ut := by rw [← List.tail_drop, hut]; rfl
    have hs' : s + 1 + l.length = L.length := by rw [← hs, List.length_cons]; omega
    obtain ⟨dst, g, o⟩ := y
    have henv : (trj sd call bar L e0 n0 h0 (s + 1)).1 = putE (trj sd call bar L e0 n0 h0 s).1 dst (nxt call (bar.getD s false) (trj sd call bar L e0 n0 h0 s).1 (nm sd n0 s) (trj sd call bar L e0 n0 h0 s).2 (.op dst g o)).2.1 := by
      show (match L[s]? with | some x => _ | none => _ : Tr × Hps).1 = _
      rw [hy]; rfl
    have hheap : (trj sd call bar L e0 n0 h0 (s + 1)).2 = (nxt call (bar.getD s false) (trj sd call bar L e0 n0 h0 s).1 (nm sd n0 s) (trj sd call bar L e0 n0 h0 s).2 (.op dst g o)).2.2.1 := by
      show (match L[s]? with | some x => _ | none => _ : Tr × Hps).2 = _
      rw [hy]
    have htT : tT sd call bar L e0 n0 h0 s = (nxt call (bar.getD s false) (trj sd call bar L e0 n0 h0 s).1 (nm sd n0 s) (trj sd call bar L e0 n0 h0 s).2 (.op dst g o)).2.2.2 := by
      unfold tT; rw [hy]
    have hd1 : stepQ sd call (runDraw sd call l ut bt) b ts (trj sd call bar L e0 n0 h0 s).1 (nm sd n0 s) (trj sd call bar L e0 n0 h0 s).2 u dst o (want (trj sd call bar L e0 n0 h0 s).1 g) = .ok x e' n' h' := hd
    have hts' : ∀ T, T = tT sd call bar L e0 n0 h0 s → ∀ i, i < s + 1 → nthT (T :: ts) (s + 1 - 1 - i) = tT sd call bar L e0 n0 h0 i := by
      intro T hT i hi
      by_cases e : i = s
      · subst e
        rw [show i + 1 - 1 - i = 0 by omega]
        exact hT
      · rw [show s + 1 - 1 - i = (s - 1 - i) + 1 by omega]
        exact hts i (by omega)
    have fin : Good sd call bar L un e0 n0 h0 s (.op dst g o) → (x = .normal ∧ e' = (trj sd call bar L e0 n0 h0 L.length).1 ∧ n' = nm sd n0 L.length ∧ h' = (trj sd call bar L e0 n0 h0 L.length).2 ∧ ∀ j y, s + 1 ≤ j → L[j]? = some y → Good sd call bar L un e0 n0 h0 j y) →
        x = .normal ∧ e' = (trj sd call bar L e0 n0 h0 L.length).1 ∧ n' = nm sd n0 L.length ∧ h' = (trj sd call bar L e0 n0 h0 L.length).2 ∧ ∀ j y, s ≤ j → L[j]? = some y → Good sd call bar L un e0 n0 h0 j y := by
      rintro hg ⟨h1, h2, h3, h4, h5⟩
      refine ⟨h1, h2, h3, h4, fun j y hj hy2 => ?_⟩
      by_cases e : j = s
      · subst e
        rw [hy] at hy2
        cases hy2
        exact hg
      · exact h5 j y (by omega) hy2
    cases hw : want (trj sd call bar L e0 n0 h0 s).1 g with
    | bad => rw [hw] at hd1; cases hd1
    | ok t =>
      rw [hw] at hd1
      cases t with
      | false =>
        have hn : nxt call (bar.getD s false) (trj sd call bar L e0 n0 h0 s).1 (nm sd n0 s) (trj sd call bar L e0 n0 h0 s).2 (.op dst g o) = (false, .tup [], (trj sd call bar L e0 n0 h0 s).2, []) := by
          unfold nxt; simp only [gP, hw]
        rw [hn] at henv hheap htT
        replace hd1 : runDraw sd call l ut bt ([] :: ts) (putE (trj sd call bar L e0 n0 h0 s).1 dst (.tup [])) (nm sd n0 s + sd) (trj sd call bar L e0 n0 h0 s).2 = .ok x e' n' h' := hd1
        refine fin ⟨by rw [hn]; exact henv, by rw [hn]; exact hheap, by rw [hn]; exact hw, fun _ => ⟨by rw [hn], hheap, htT⟩, fun e => by rw [hn] at e; cases e⟩ (ih (s + 1) ut bt ([] :: ts) hl' hs' hut' hbt' (hts' [] htT.symm) ?_)
        rw [henv, hheap, nm_succ]
        exact hd1
      | true =>
        replace hd1 : drawK sd (runDraw sd call l ut bt) ts (trj sd call bar L e0 n0 h0 s).1 (nm sd n0 s) (trj sd call bar L e0 n0 h0 s).2 u dst o (opP call b (trj sd call bar L e0 n0 h0 s).1 (nm sd n0 s) (trj sd call bar L e0 n0 h0 s).2 o) = .ok x e' n' h' := hd1
        cases hop : opP call b (trj sd call bar L e0 n0 h0 s).1 (nm sd n0 s) (trj sd call bar L e0 n0 h0 s).2 o with
        | bad => rw [hop] at hd1; cases hd1
        | ok d n1 h1 =>
          rw [hop] at hd1
          replace hd1 : Bool.rec (motive := fun _ => Re) .bad (runDraw sd call l ut bt (touchR (trj sd call bar L e0 n0 h0 s).1 (nm sd n0 s) o (trj sd call bar L e0 n0 h0 s).2 h1 :: ts) (putE (trj sd call bar L e0 n0 h0 s).1 dst d) (nm sd n0 s + sd) h1)
            (Bool.and (Nat.blt n1 (nm sd n0 s + sd)) (apartAll (touchR (trj sd call bar L e0 n0 h0 s).1 (nm sd n0 s) o (trj sd call bar L e0 n0 h0 s).2 h1) ts u)) = .ok x e' n' h' := hd1
          cases hap : Bool.and (Nat.blt n1 (nm sd n0 s + sd)) (apartAll (touchR (trj sd call bar L e0 n0 h0 s).1 (nm sd n0 s) o (trj sd call bar L e0 n0 h0 s).2 h1) ts u) with
          | false => rw [hap] at hd1; cases hd1
          | true =>
            rw [hap] at hd1
            obtain ⟨hlt, hap⟩ := and2 hap
            rw [blt_iff] at hlt
            have hlt := of_decide_eq_true hlt
            replace hd1 : runDraw sd call l ut bt (touchR (trj sd call bar L e0 n0 h0 s).1 (nm sd n0 s) o (trj sd call bar L e0 n0 h0 s).2 h1 :: ts) (putE (trj sd call bar L e0 n0 h0 s).1 dst d) (nm sd n0 s + sd) h1 = .ok x e' n' h' := hd1
            have hn : nxt call (bar.getD s false) (trj sd call bar L e0 n0 h0 s).1 (nm sd n0 s) (trj sd call bar L e0 n0 h0 s).2 (.op dst g o) = (true, d, h1, touchR (trj sd call bar L e0 n0 h0 s).1 (nm sd n0 s) o (trj sd call bar L e0 n0 h0 s).2 h1) := by
              unfold nxt; simp only [gP, oP, hw, hbs, hop]
            rw [hn] at henv hheap htT
            refine fin ⟨by rw [hn]; exact henv, by rw [hn]; exact hheap, by rw [hn]; exact hw, (fun e => by rw [hn] at e; cases e), fun _ => ⟨by rw [htT, hheap]; rfl, ⟨n1, hlt, by rw [hn, hheap, hbs]; exact hop⟩, fun i hi hu r hr => ?_⟩⟩ (ih (s + 1) ut bt _ hl' hs' hut' hbt' (hts' _ htT.symm) ?_)
            · rw [hus] at hu
              have := (apartAll_eq _ _ _).1 hap _ hu
              rw [hts i hi] at this
              rw [show tT sd call bar L e0 n0 h0 s = touchR (trj sd call bar L e0 n0 h0 s).1 (nm sd n0 s) o (trj sd call bar L e0 n0 h0 s).2 h1 from htT] at hr
              exact (disj_eq _ _).1 this r hr
            · rw [henv, hheap, nm_succ]
              exact hd1
end
end Go.Proofs.Ytdijijblccmfbaa
