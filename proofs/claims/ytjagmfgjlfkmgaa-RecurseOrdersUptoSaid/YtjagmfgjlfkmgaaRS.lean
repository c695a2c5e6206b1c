/- How a call is at a place: the program's and the reference's answer are one. No condition. -/
import Derived.Test.YtjagmfgjlfkmgaaRQ
set_option linter.unusedSimpArgs false
set_option linter.unusedVariables false
namespace Go.Proofs.Ytjagmfgjlfkmgaa
open Go

def atC (c : Cal) (k : Nat) : Int :=
  if hk : k < c.frm.el.length ∧ k < c.args.el.length then
    if c.args.el[k] < (varPs (c.frm.el.take k) : Nat) ∨ (varPs (c.frm.el.take k) : Nat) + (varP c.frm.el[k] : Nat) ≤ c.args.el[k] then 0
    else if c.frm.el[k].form = 1 then 1 else if c.frm.el[k].form = 2 then 2 else 0
  else 0

theorem cut1 {s : Sl Pat} {k : Nat} (hk : k < s.el.length) : (s.cut 0 k).el = s.el.take k := by rw [Sl.cut_el (Nat.le_of_lt hk), List.drop_zero, Nat.sub_zero]
theorem cut2 {s : Sl Pat} {k : Nat} (hk : k < s.el.length) : (s.cut k (k + 1)).el = [s.el[k]] := by
  rw [Sl.cut_el (by omega), show k + 1 - k = 1 by omega, List.drop_eq_getElem_cons hk]; rfl
theorem varPs_one (p : Pat) : varPs [p] = varP p := by rw [varPs_cons, varPs]; rfl
theorem sizePs_one (p : Pat) : sizePs [p] = sizeP p := by rw [sizePs_cons, sizePs]; rfl
theorem elemC : ElemOk 2 encC := ⟨fun c => by unfold encC; simp [flat2_agg, flat1_slD], fun c => by
  show Bool.and (okF 2 (encC c)) (clo 20 (encC c)) = true
  unfold encC
  show Bool.and true (allL (clo 19) [slD 3 encP c.frm, slD 1 encI c.args]) = true
  rw [allL_eq]
  simp [clo_slD]⟩
theorem elemI : ElemOk 1 encI := ⟨fun _ => rfl, fun _ => rfl⟩

section
variable (c : Cal) (k n : Nat) (h : Hps) (hs : sizePs c.frm.el < 1000000000) (hg : ∀ k, n ≤ k → GoodAt k h)
include hs hg
theorem recAt : callFn (LX (cF Go.Proofs.Try.prog)) n h [encC c, .int .i64 (k : Int)] (cF Go.Proofs.Try.prog 59) = .ok (.int .i64 (atC c k)) n h := by
  have hgn := hg n (Nat.le_refl _)
  rw [f59_eq]
  unfold c59
  rw [callFn_eq (by rfl)]
  unfold atC
  by_cases h1 : k < c.frm.el.length
  · by_cases h2 : k < c.args.el.length
    · rw [dif_pos ⟨h1, h2⟩]
      have e1 := cut1 h1
      have e2 := cut2 h1
      have z1 := sizePs_take c.frm.el k
      have z2 := sizePs_nth h1
      have z3 := varP_le c.frm.el[k]
      have z4 := varPs_le (c.frm.el.take k)
      have z5 := length_le c.frm.el
      have hb : ∀ q, n + 1 ≤ q → GoodAt q ((n, .row 2 [.agg [slD 3 encP c.frm, slD 1 encI c.args]]) :: h) := fun q hq => good_cons.2 ⟨by omega, lowO_one (lowC q c), hg q (by omega)⟩
      have c1 : ∀ m, n + 1 ≤ m → callFn (LX (cF Go.Proofs.Try.prog)) m ((n, .row 2 [.agg [slD 3 encP c.frm, slD 1 encI c.args]]) :: h) [slD 3 encP (c.frm.cut 0 k)] (cF Go.Proofs.Try.prog 21) =
          .ok (.int .i64 (varPs (c.frm.el.take k) : Nat)) m ((n, .row 2 [.agg [slD 3 encP c.frm, slD 1 encI c.args]]) :: h) := fun m hm => by
        rw [recVars _ _ _ (by rw [e1]; omega) (fun q hq => hb q (by omega)), e1]
      have c2 : ∀ m, n + 1 ≤ m → callFn (LX (cF Go.Proofs.Try.prog)) m ((n, .row 2 [.agg [slD 3 encP c.frm, slD 1 encI c.args]]) :: h) [slD 3 encP (c.frm.cut k (k + 1))] (cF Go.Proofs.Try.prog 21) =
          .ok (.int .i64 (varP c.frm.el[k] : Nat)) m ((n, .row 2 [.agg [slD 3 encP c.frm, slD 1 encI c.args]]) :: h) := fun m hm => by
        rw [recVars _ _ _ (by rw [e2, sizePs_one]; omega) (fun q hq => hb q (by omega)), e2, varPs_one]
      by_cases h3 : c.args.el[k] < (varPs (c.frm.el.take k) : Nat)
      · rw [if_pos (.inl h3)]
        simp (disch := first | assumption | omega | (simp (disch := first | assumption | omega) only [sB, Nat.reduceAdd, Nat.reduceLT, Nat.reduceLeDiff, Nat.reduceEqDiff, Nat.reduceMul, ↓reduceIte]; done) | fail) only [sA, ↓reduceIte, Nat.reduceLT, Nat.reduceEqDiff, Nat.reduceAdd, Nat.reduceLeDiff, encC, encI, encP_eq, c1, c2]
      · by_cases h4 : (varPs (c.frm.el.take k) : Nat) + (varP c.frm.el[k] : Nat) ≤ c.args.el[k]
        · rw [if_pos (.inr h4)]
          simp (disch := first | assumption | omega | (simp (disch := first | assumption | omega) only [sB, Nat.reduceAdd, Nat.reduceLT, Nat.reduceLeDiff, Nat.reduceEqDiff, Nat.reduceMul, ↓reduceIte]; done) | fail) only [sA, ↓reduceIte, Nat.reduceLT, Nat.reduceEqDiff, Nat.reduceAdd, Nat.reduceLeDiff, encC, encI, encP_eq, c1, c2]
        · rw [if_neg (by omega)]
          by_cases h5 : c.frm.el[k].form = 1
          · rw [if_pos h5]
            simp (disch := first | assumption | omega | (simp (disch := first | assumption | omega) only [sB, Nat.reduceAdd, Nat.reduceLT, Nat.reduceLeDiff, Nat.reduceEqDiff, Nat.reduceMul, ↓reduceIte]; done) | fail) only [sA, ↓reduceIte, Nat.reduceLT, Nat.reduceEqDiff, Nat.reduceAdd, Nat.reduceLeDiff, encC, encI, encP_eq, c1, c2]
          · rw [if_neg h5]
            by_cases h6 : c.frm.el[k].form = 2
            · rw [if_pos h6]
              simp (disch := first | assumption | omega | (simp (disch := first | assumption | omega) only [sB, Nat.reduceAdd, Nat.reduceLT, Nat.reduceLeDiff, Nat.reduceEqDiff, Nat.reduceMul, ↓reduceIte]; done) | fail) only [sA, ↓reduceIte, Nat.reduceLT, Nat.reduceEqDiff, Nat.reduceAdd, Nat.reduceLeDiff, encC, encI, encP_eq, c1, c2]
            · rw [if_neg h6]
              simp (disch := first | assumption | omega | (simp (disch := first | assumption | omega) only [sB, Nat.reduceAdd, Nat.reduceLT, Nat.reduceLeDiff, Nat.reduceEqDiff, Nat.reduceMul, ↓reduceIte]; done) | fail) only [sA, ↓reduceIte, Nat.reduceLT, Nat.reduceEqDiff, Nat.reduceAdd, Nat.reduceLeDiff, encC, encI, encP_eq, c1, c2]
    · rw [dif_neg (by omega)]
      simp (disch := first | assumption | omega | (simp (disch := first | assumption | omega) only [sB, Nat.reduceAdd, Nat.reduceLT, Nat.reduceLeDiff, Nat.reduceEqDiff, Nat.reduceMul, ↓reduceIte]; done) | fail) only [sA, ↓reduceIte, Nat.reduceLT, Nat.reduceEqDiff, Nat.reduceAdd, Nat.reduceLeDiff, encC]
  · rw [dif_neg (by omega)]
    simp (disch := first | assumption | omega | (simp (disch := first | assumption | omega) only [sB, Nat.reduceAdd, Nat.reduceLT, Nat.reduceLeDiff, Nat.reduceEqDiff, Nat.reduceMul, ↓reduceIte]; done) | fail) only [sA, ↓reduceIte, Nat.reduceLT, Nat.reduceEqDiff, Nat.reduceAdd, Nat.reduceLeDiff, encC]
theorem refAt : callFn (LX (cF Go.Proofs.Try.prog)) n h [encC c, .int .i64 (k : Int)] (cF Go.Proofs.Try.prog 60) = .ok (.int .i64 (atC c k)) n h := by
  have hgn := hg n (Nat.le_refl _)
  rw [f60_eq]
  unfold c60
  rw [callFn_eq (by rfl)]
  unfold atC
  by_cases h1 : k < c.frm.el.length
  · by_cases h2 : k < c.args.el.length
    · rw [dif_pos ⟨h1, h2⟩]
      have e1 := cut1 h1
      have e2 := cut2 h1
      have z1 := sizePs_take c.frm.el k
      have z2 := sizePs_nth h1
      have z3 := varP_le c.frm.el[k]
      have z4 := varPs_le (c.frm.el.take k)
      have z5 := length_le c.frm.el
      have hb : ∀ q, n + 1 ≤ q → GoodAt q ((n, .row 2 [.agg [slD 3 encP c.frm, slD 1 encI c.args]]) :: h) := fun q hq => good_cons.2 ⟨by omega, lowO_one (lowC q c), hg q (by omega)⟩
      have c1 : ∀ m, n + 1 ≤ m → callFn (LX (cF Go.Proofs.Try.prog)) m ((n, .row 2 [.agg [slD 3 encP c.frm, slD 1 encI c.args]]) :: h) [slD 3 encP (c.frm.cut 0 k)] (cF Go.Proofs.Try.prog 22) =
          .ok (.int .i64 (varPs (c.frm.el.take k) : Nat)) m ((n, .row 2 [.agg [slD 3 encP c.frm, slD 1 encI c.args]]) :: h) := fun m hm => by
        rw [refVars _ _ _ _ (Nat.le_refl _) (by rw [e1]; omega) (fun q hq => hb q (by omega)), e1]
      have c2 : ∀ m, n + 1 ≤ m → callFn (LX (cF Go.Proofs.Try.prog)) m ((n, .row 2 [.agg [slD 3 encP c.frm, slD 1 encI c.args]]) :: h) [slD 3 encP (c.frm.cut k (k + 1))] (cF Go.Proofs.Try.prog 22) =
          .ok (.int .i64 (varP c.frm.el[k] : Nat)) m ((n, .row 2 [.agg [slD 3 encP c.frm, slD 1 encI c.args]]) :: h) := fun m hm => by
        rw [refVars _ _ _ _ (Nat.le_refl _) (by rw [e2, sizePs_one]; omega) (fun q hq => hb q (by omega)), e2, varPs_one]
      by_cases h0 : c.args.el[k] < 0
      · rw [if_pos (.inl (by omega))]
        simp (disch := first | assumption | omega | (simp (disch := first | assumption | omega) only [sB, Nat.reduceAdd, Nat.reduceLT, Nat.reduceLeDiff, Nat.reduceEqDiff, Nat.reduceMul, ↓reduceIte]; done) | fail) only [sA, ↓reduceIte, Nat.reduceLT, Nat.reduceEqDiff, Nat.reduceAdd, Nat.reduceLeDiff, encC, encI, encP_eq, c1, c2]
      · by_cases h3 : c.args.el[k] < (varPs (c.frm.el.take k) : Nat)
        · rw [if_pos (.inl h3)]
          simp (disch := first | assumption | omega | (simp (disch := first | assumption | omega) only [sB, Nat.reduceAdd, Nat.reduceLT, Nat.reduceLeDiff, Nat.reduceEqDiff, Nat.reduceMul, ↓reduceIte]; done) | fail) only [sA, ↓reduceIte, Nat.reduceLT, Nat.reduceEqDiff, Nat.reduceAdd, Nat.reduceLeDiff, encC, encI, encP_eq, c1, c2]
        · by_cases h4 : (varPs (c.frm.el.take k) : Nat) + (varP c.frm.el[k] : Nat) ≤ c.args.el[k]
          · rw [if_pos (.inr h4)]
            simp (disch := first | assumption | omega | (simp (disch := first | assumption | omega) only [sB, Nat.reduceAdd, Nat.reduceLT, Nat.reduceLeDiff, Nat.reduceEqDiff, Nat.reduceMul, ↓reduceIte]; done) | fail) only [sA, ↓reduceIte, Nat.reduceLT, Nat.reduceEqDiff, Nat.reduceAdd, Nat.reduceLeDiff, encC, encI, encP_eq, c1, c2]
          · rw [if_neg (by omega)]
            by_cases h6 : c.frm.el[k].form = 2
            · have h5 : ¬ c.frm.el[k].form = 1 := by omega
              rw [if_neg h5, if_pos h6]
              simp (disch := first | assumption | omega | (simp (disch := first | assumption | omega) only [sB, Nat.reduceAdd, Nat.reduceLT, Nat.reduceLeDiff, Nat.reduceEqDiff, Nat.reduceMul, ↓reduceIte]; done) | fail) only [sA, ↓reduceIte, Nat.reduceLT, Nat.reduceEqDiff, Nat.reduceAdd, Nat.reduceLeDiff, encC, encI, encP_eq, c1, c2]
            · by_cases h5 : c.frm.el[k].form = 1
              · rw [if_pos h5]
                simp (disch := first | assumption | omega | (simp (disch := first | assumption | omega) only [sB, Nat.reduceAdd, Nat.reduceLT, Nat.reduceLeDiff, Nat.reduceEqDiff, Nat.reduceMul, ↓reduceIte]; done) | fail) only [sA, ↓reduceIte, Nat.reduceLT, Nat.reduceEqDiff, Nat.reduceAdd, Nat.reduceLeDiff, encC, encI, encP_eq, c1, c2]
              · rw [if_neg h5, if_neg h6]
                simp (disch := first | assumption | omega | (simp (disch := first | assumption | omega) only [sB, Nat.reduceAdd, Nat.reduceLT, Nat.reduceLeDiff, Nat.reduceEqDiff, Nat.reduceMul, ↓reduceIte]; done) | fail) only [sA, ↓reduceIte, Nat.reduceLT, Nat.reduceEqDiff, Nat.reduceAdd, Nat.reduceLeDiff, encC, encI, encP_eq, c1, c2]
    · rw [dif_neg (by omega)]
      simp (disch := first | assumption | omega | (simp (disch := first | assumption | omega) only [sB, Nat.reduceAdd, Nat.reduceLT, Nat.reduceLeDiff, Nat.reduceEqDiff, Nat.reduceMul, ↓reduceIte]; done) | fail) only [sA, ↓reduceIte, Nat.reduceLT, Nat.reduceEqDiff, Nat.reduceAdd, Nat.reduceLeDiff, encC]
  · rw [dif_neg (by omega)]
    simp (disch := first | assumption | omega | (simp (disch := first | assumption | omega) only [sB, Nat.reduceAdd, Nat.reduceLT, Nat.reduceLeDiff, Nat.reduceEqDiff, Nat.reduceMul, ↓reduceIte]; done) | fail) only [sA, ↓reduceIte, Nat.reduceLT, Nat.reduceEqDiff, Nat.reduceAdd, Nat.reduceLeDiff, encC]
end
end Go.Proofs.Ytjagmfgjlfkmgaa
