/- Patterns as Lean's trees; how many variables and parts they have: what the functions of the reference tell. No condition. -/
import Derived.Test.YtjagmfgjlfkmgaaA39
import Derived.Test.YtjagmfgjlfkmgaaCR
set_option linter.unusedSimpArgs false
set_option linter.unusedVariables false
namespace Go.Proofs.Ytjagmfgjlfkmgaa
open Go

inductive Pat where
  | mk (form : Int) (name : List Nat) (nil full : Bool) (kids spare : List Pat)
def Pat.form : Pat → Int | .mk f _ _ _ _ _ => f
def Pat.name : Pat → List Nat | .mk _ s _ _ _ _ => s
def Pat.kids : Pat → Sl Pat | .mk _ _ b c ks sp => ⟨b, c, ks, sp⟩
mutual
noncomputable def encP : Pat → D
  | .mk f nm nil full ks sp => .agg [.int .i64 f, .str nm, bif nil && ks.isEmpty && sp.isEmpty then .nils else .sl 3 (encPs ks) (encPs sp) full]
noncomputable def encPs : List Pat → List D
  | [] => []
  | p :: t => encP p :: encPs t
end
mutual
def varP : Pat → Nat
  | .mk f _ _ _ ks _ => if f = 1 then 1 else if f = 2 then varPs ks else 0
def varPs : List Pat → Nat
  | [] => 0
  | p :: t => varP p + varPs t
end
mutual
def sizeP : Pat → Nat
  | .mk _ _ _ _ ks _ => 1 + sizePs ks
def sizePs : List Pat → Nat
  | [] => 0
  | p :: t => sizeP p + sizePs t
end
theorem encPs_eq (l : List Pat) : encPs l = l.map encP := by
  induction l with
  | nil => rfl
  | cons p t ih => rw [encPs, ih]; rfl
theorem encP_eq (p : Pat) : encP p = .agg [.int .i64 p.form, .str p.name, slD 3 encP p.kids] := by
  cases p with
  | mk f nm nil full ks sp => rw [encP, encPs_eq, encPs_eq]; rfl
theorem varP_eq (p : Pat) : varP p = if p.form = 1 then 1 else if p.form = 2 then varPs p.kids.el else 0 := by cases p; rw [varP]; rfl
theorem sizeP_eq (p : Pat) : sizeP p = 1 + sizePs p.kids.el := by cases p; rw [sizeP]; rfl
theorem varPs_cons (p : Pat) (t : List Pat) : varPs (p :: t) = varP p + varPs t := by rw [varPs]
theorem sizePs_cons (p : Pat) (t : List Pat) : sizePs (p :: t) = sizeP p + sizePs t := by rw [sizePs]
mutual
theorem varP_le : ∀ p : Pat, varP p ≤ sizeP p
  | .mk f nm nil full ks sp => by
    have := varPs_le ks
    rw [varP, sizeP]
    split
    · omega
    · split <;> omega
theorem varPs_le : ∀ l : List Pat, varPs l ≤ sizePs l
  | [] => by rw [varPs]; omega
  | p :: t => by
    have h1 := varP_le p
    have h2 := varPs_le t
    rw [varPs, sizePs]
    omega
end
theorem sizeP_pos (p : Pat) : 0 < sizeP p := by rw [sizeP_eq]; omega
theorem drop_cons {l : List Pat} {i : Nat} (hi : i < l.length) : l.drop i = l[i] :: l.drop (i + 1) := List.drop_eq_getElem_cons hi
theorem sizePs_drop {l : List Pat} {i : Nat} (hi : i < l.length) : sizePs (l.drop i) = sizeP l[i] + sizePs (l.drop (i + 1)) := by rw [drop_cons hi, sizePs_cons]
theorem varPs_drop {l : List Pat} {i : Nat} (hi : i < l.length) : varPs (l.drop i) = varP l[i] + varPs (l.drop (i + 1)) := by rw [drop_cons hi, varPs_cons]
theorem sizePs_nth {l : List Pat} {i : Nat} (hi : i < l.length) : sizeP l[i] ≤ sizePs l := by
  have : ∀ (l : List Pat) (i : Nat) (hi : i < l.length), sizeP l[i] ≤ sizePs l := by
    intro l
    induction l with
    | nil => intro i hi; exact absurd hi (Nat.not_lt_zero _)
    | cons p t ih =>
      intro i hi
      rw [sizePs_cons]
      cases i with
      | zero => exact Nat.le_add_right _ _
      | succ i => have := ih i (by simpa using hi); simp only [List.getElem_cons_succ]; omega
  exact this l i hi

theorem length_le : ∀ l : List Pat, l.length ≤ sizePs l
  | [] => Nat.zero_le _
  | p :: t => by
    have h1 := sizeP_pos p
    have h2 := length_le t
    rw [sizePs_cons, List.length_cons]
    omega

/-- the reference counts the variables -/
theorem refVars : ∀ (m : Nat) (s : Sl Pat) (n : Nat) (h : Hps), sizePs s.el ≤ m → m < 1000000000 → (∀ k, n ≤ k → GoodAt k h) →
    callFn (LX (cF Go.Proofs.Try.prog)) n h [slD 3 encP s] (cF Go.Proofs.Try.prog 22) = .ok (.int .i64 (varPs s.el : Nat)) n h := by
  intro m
  induction m using Nat.strongRecOn with
  | _ m ih =>
  intro s n h hm hm1 hg
  have loop : ∀ (j i acc : Nat) (e : Tr) (n : Nat), s.el.length - i = j → i ≤ s.el.length → acc + varPs (s.el.drop i) = varPs s.el → get (po 0) e = slD 3 encP s → get (po 3) e = .int .i64 acc → get (po 4) e = .int .i64 i → (∀ k, n ≤ k → GoodAt k h) →
      ∃ e' n', LX (cF Go.Proofs.Try.prog) (.loop l22_0) e n h = .ok (.exit 0) e' n' h ∧ get (po 3) e' = .int .i64 (varPs s.el : Nat) ∧ n ≤ n' := by
    intro j
    induction j with
    | zero =>
      intro i acc e n hj hi hacc h0 h3 h4 hg
      have hdrop : s.el.drop i = [] := List.drop_eq_nil_of_le (by omega)
      rw [hdrop, varPs, Nat.add_zero] at hacc
      obtain ⟨e1, n1, hb, g1, g2⟩ : ∃ e1 n1, LX (cF Go.Proofs.Try.prog) l22_0 e n h = .ok (.exit 0) e1 n1 h ∧ get (po 3) e1 = .int .i64 (varPs s.el : Nat) ∧ n ≤ n1 := by
        unfold l22_0
        simp (disch := first | assumption | omega | (simp (disch := first | assumption | omega) only [sB, Nat.reduceAdd, Nat.reduceLT, Nat.reduceLeDiff, Nat.reduceEqDiff, Nat.reduceMul, ↓reduceIte]; done) | fail) only [sA, ↓reduceIte, Nat.reduceLT, Nat.reduceEqDiff, Nat.reduceAdd, Nat.reduceLeDiff, h0, h3, h4]
        exact ⟨_, _, rfl, by simp (disch := first | assumption | omega | (simp (disch := first | assumption | omega) only [sB, Nat.reduceAdd, Nat.reduceLT, Nat.reduceLeDiff, Nat.reduceEqDiff, Nat.reduceMul, ↓reduceIte]; done) | fail) only [sA, ↓reduceIte, Nat.reduceLT, Nat.reduceEqDiff, Nat.reduceAdd, Nat.reduceLeDiff, h3, hacc], by omega⟩
      exact ⟨e1, n1, by rw [LX_loop, hb]; rfl, g1, g2⟩
    | succ j ihj =>
      intro i acc e n hj hi hacc h0 h3 h4 hg
      have hlt : i < s.el.length := by omega
      have hvd := varPs_drop hlt
      have hvl := varPs_le s.el
      have hll := length_le s.el
      have hsz := sizePs_nth hlt
      have hle := varP_le s.el[i]
      have hv := varP_eq s.el[i]
      have hs := sizeP_eq s.el[i]
      have hc : ∀ k, n ≤ k → callFn (LX (cF Go.Proofs.Try.prog)) k h [slD 3 encP s.el[i].kids] (cF Go.Proofs.Try.prog 22) = .ok (.int .i64 (varPs s.el[i].kids.el : Nat)) k h :=
        fun k hk => ih (sizePs s.el[i].kids.el) (by omega) _ _ _ (Nat.le_refl _) (by omega) (fun q hq => hg q (by omega))
      obtain ⟨e1, n1, hb, g0, g3, g4, g5⟩ : ∃ e1 n1, LX (cF Go.Proofs.Try.prog) l22_0 e n h = .ok .normal e1 n1 h ∧ get (po 0) e1 = slD 3 encP s ∧ get (po 3) e1 = .int .i64 ((acc + varP s.el[i] : Nat) : Int) ∧ get (po 4) e1 = .int .i64 ((i + 1 : Nat) : Int) ∧ n ≤ n1 := by
        unfold l22_0
        rw [hv]
        by_cases f1 : s.el[i].form = 1
        · rw [if_pos f1] at hv ⊢
          have f2 : ¬ s.el[i].form = 2 := by omega
          simp (disch := first | assumption | omega | (simp (disch := first | assumption | omega) only [sB, Nat.reduceAdd, Nat.reduceLT, Nat.reduceLeDiff, Nat.reduceEqDiff, Nat.reduceMul, ↓reduceIte]; done) | fail) only [sA, ↓reduceIte, Nat.reduceLT, Nat.reduceEqDiff, Nat.reduceAdd, Nat.reduceLeDiff, h0, h3, h4, encP_eq]
          exact ⟨_, _, rfl, by simp (disch := first | assumption | omega | (simp (disch := first | assumption | omega) only [sB, Nat.reduceAdd, Nat.reduceLT, Nat.reduceLeDiff, Nat.reduceEqDiff, Nat.reduceMul, ↓reduceIte]; done) | fail) only [sA, ↓reduceIte, Nat.reduceLT, Nat.reduceEqDiff, Nat.reduceAdd, Nat.reduceLeDiff, h0], by simp (disch := first | assumption | omega | (simp (disch := first | assumption | omega) only [sB, Nat.reduceAdd, Nat.reduceLT, Nat.reduceLeDiff, Nat.reduceEqDiff, Nat.reduceMul, ↓reduceIte]; done) | fail) only [sA, ↓reduceIte, Nat.reduceLT, Nat.reduceEqDiff, Nat.reduceAdd, Nat.reduceLeDiff, h3], by simp (disch := first | assumption | omega | (simp (disch := first | assumption | omega) only [sB, Nat.reduceAdd, Nat.reduceLT, Nat.reduceLeDiff, Nat.reduceEqDiff, Nat.reduceMul, ↓reduceIte]; done) | fail) only [sA, ↓reduceIte, Nat.reduceLT, Nat.reduceEqDiff, Nat.reduceAdd, Nat.reduceLeDiff, h4], by omega⟩
        · rw [if_neg f1] at hv ⊢
          by_cases f2 : s.el[i].form = 2
          · rw [if_pos f2] at hv ⊢
            simp (disch := first | assumption | omega | (simp (disch := first | assumption | omega) only [sB, Nat.reduceAdd, Nat.reduceLT, Nat.reduceLeDiff, Nat.reduceEqDiff, Nat.reduceMul, ↓reduceIte]; done) | fail) only [sA, ↓reduceIte, Nat.reduceLT, Nat.reduceEqDiff, Nat.reduceAdd, Nat.reduceLeDiff, h0, h3, h4, encP_eq, hc]
            exact ⟨_, _, rfl, by simp (disch := first | assumption | omega | (simp (disch := first | assumption | omega) only [sB, Nat.reduceAdd, Nat.reduceLT, Nat.reduceLeDiff, Nat.reduceEqDiff, Nat.reduceMul, ↓reduceIte]; done) | fail) only [sA, ↓reduceIte, Nat.reduceLT, Nat.reduceEqDiff, Nat.reduceAdd, Nat.reduceLeDiff, h0], by simp (disch := first | assumption | omega | (simp (disch := first | assumption | omega) only [sB, Nat.reduceAdd, Nat.reduceLT, Nat.reduceLeDiff, Nat.reduceEqDiff, Nat.reduceMul, ↓reduceIte]; done) | fail) only [sA, ↓reduceIte, Nat.reduceLT, Nat.reduceEqDiff, Nat.reduceAdd, Nat.reduceLeDiff, h3], by simp (disch := first | assumption | omega | (simp (disch := first | assumption | omega) only [sB, Nat.reduceAdd, Nat.reduceLT, Nat.reduceLeDiff, Nat.reduceEqDiff, Nat.reduceMul, ↓reduceIte]; done) | fail) only [sA, ↓reduceIte, Nat.reduceLT, Nat.reduceEqDiff, Nat.reduceAdd, Nat.reduceLeDiff, h4], by omega⟩
          · rw [if_neg f2] at hv ⊢
            simp (disch := first | assumption | omega | (simp (disch := first | assumption | omega) only [sB, Nat.reduceAdd, Nat.reduceLT, Nat.reduceLeDiff, Nat.reduceEqDiff, Nat.reduceMul, ↓reduceIte]; done) | fail) only [sA, ↓reduceIte, Nat.reduceLT, Nat.reduceEqDiff, Nat.reduceAdd, Nat.reduceLeDiff, h0, h3, h4, encP_eq]
            exact ⟨_, _, rfl, by simp (disch := first | assumption | omega | (simp (disch := first | assumption | omega) only [sB, Nat.reduceAdd, Nat.reduceLT, Nat.reduceLeDiff, Nat.reduceEqDiff, Nat.reduceMul, ↓reduceIte]; done) | fail) only [sA, ↓reduceIte, Nat.reduceLT, Nat.reduceEqDiff, Nat.reduceAdd, Nat.reduceLeDiff, h0], by simp (disch := first | assumption | omega | (simp (disch := first | assumption | omega) only [sB, Nat.reduceAdd, Nat.reduceLT, Nat.reduceLeDiff, Nat.reduceEqDiff, Nat.reduceMul, ↓reduceIte]; done) | fail) only [sA, ↓reduceIte, Nat.reduceLT, Nat.reduceEqDiff, Nat.reduceAdd, Nat.reduceLeDiff, h3], by simp (disch := first | assumption | omega | (simp (disch := first | assumption | omega) only [sB, Nat.reduceAdd, Nat.reduceLT, Nat.reduceLeDiff, Nat.reduceEqDiff, Nat.reduceMul, ↓reduceIte]; done) | fail) only [sA, ↓reduceIte, Nat.reduceLT, Nat.reduceEqDiff, Nat.reduceAdd, Nat.reduceLeDiff, h4], by omega⟩
      obtain ⟨e2, n2, hb2, k3, k5⟩ := ihj (i + 1) (acc + varP s.el[i]) e1 n1 (by omega) (by omega) (by omega) g0 g3 g4 (fun q hq => hg q (by omega))
      exact ⟨e2, n2, by rw [LX_loop, hb, seqR_normal, hb2], k3, by omega⟩
  rw [f22_eq]
  unfold c22
  rw [callFn_eq (by rfl)]
  have hlp := fun e n h0 h3 h4 hg => loop _ 0 0 e n rfl (Nat.zero_le _) (by simp) h0 h3 h4 hg
  simp (disch := first | assumption | omega | (simp (disch := first | assumption | omega) only [sB, Nat.reduceAdd, Nat.reduceLT, Nat.reduceLeDiff, Nat.reduceEqDiff, Nat.reduceMul, ↓reduceIte]; done) | fail) only [sA, ↓reduceIte, Nat.reduceLT, Nat.reduceEqDiff, Nat.reduceAdd, Nat.reduceLeDiff]
  obtain ⟨e2, n2, hb2, k3, k5⟩ := hlp (putT (po 4) (.int .i64 0) (putT (po 3) (.int .i64 0) (putT (po 2) (.int .i64 0) (putT (po 0) (slD 3 encP s) .lf)))) (n + 3) (by simp (disch := first | assumption | omega | (simp (disch := first | assumption | omega) only [sB, Nat.reduceAdd, Nat.reduceLT, Nat.reduceLeDiff, Nat.reduceEqDiff, Nat.reduceMul, ↓reduceIte]; done) | fail) only [sA, ↓reduceIte, Nat.reduceLT, Nat.reduceEqDiff, Nat.reduceAdd, Nat.reduceLeDiff]) (by simp (disch := first | assumption | omega | (simp (disch := first | assumption | omega) only [sB, Nat.reduceAdd, Nat.reduceLT, Nat.reduceLeDiff, Nat.reduceEqDiff, Nat.reduceMul, ↓reduceIte]; done) | fail) only [sA, ↓reduceIte, Nat.reduceLT, Nat.reduceEqDiff, Nat.reduceAdd, Nat.reduceLeDiff]) (by simp (disch := first | assumption | omega | (simp (disch := first | assumption | omega) only [sB, Nat.reduceAdd, Nat.reduceLT, Nat.reduceLeDiff, Nat.reduceEqDiff, Nat.reduceMul, ↓reduceIte]; done) | fail) only [sA, ↓reduceIte, Nat.reduceLT, Nat.reduceEqDiff, Nat.reduceAdd, Nat.reduceLeDiff]) (fun q hq => hg q (by omega))
  rw [hb2]
  have hgn := hg n (Nat.le_refl _)
  simp (disch := first | assumption | omega | (simp (disch := first | assumption | omega) only [sB, Nat.reduceAdd, Nat.reduceLT, Nat.reduceLeDiff, Nat.reduceEqDiff, Nat.reduceMul, ↓reduceIte]; done) | fail) only [sA, ↓reduceIte, Nat.reduceLT, Nat.reduceEqDiff, Nat.reduceAdd, Nat.reduceLeDiff, k3]
end Go.Proofs.Ytjagmfgjlfkmgaa
