/- LevelMakes: what is n more than a level, and the greater one of two: the program's answer is the reference's, for all levels and numbers. No condition. -/
import Derived.Test.YtjagmfgjlfkmgaaLG
set_option linter.unusedSimpArgs false
set_option linter.unusedVariables false
namespace Go.Proofs.Ytjagmfgjlfkmgaa
open Go Go.ChangeShapes Go.WideShapes Go.ChangeAt Go.RowKit

theorem lm_run (N N' k : Int) (s s' : Sl LV) : ∃ n' h', callFn (LX (cF Go.Proofs.Try.prog)) 0 [] [(D.agg [.int .i64 (N), slD 2 encV (s)]), (D.agg [.int .i64 (N'), slD 2 encV (s')]), .int .i64 k] ((cF Go.Proofs.Try.prog) 10) = .ok (.bool true) n' h' := by
  rw [f10_eq]; unfold c10; rw [callFn_eq (by rfl)]
  by_cases hs : 200 < s.el.length
  · simp (disch := first | assumption | omega | (simp (disch := first | assumption | omega) only [flatA0, flatA1, flatA2, flatA3, flatA4, Nat.reduceAdd, Nat.reduceLT, Nat.reduceLeDiff, Nat.reduceEqDiff, Nat.reduceMul, ↓reduceIte, gf_nil, gf_lev, gf_zero, and_self, true_and, and_true]; done) | fail) only [stepA0, stepA1, stepA2, stepA3, stepA4, stepA5, stepA6, stepA7, stepA8, stepA9, ↓reduceIte, Nat.reduceLT, Nat.reduceEqDiff, Nat.reduceAdd, Nat.reduceLeDiff, kAlive, kBig, hs, decide_true, gf_nil, gf_lev, gf_zero, and_self, true_and, and_true]
    exact ⟨_, _, rfl⟩
  · by_cases hs' : 200 < s'.el.length
    · simp (disch := first | assumption | omega | (simp (disch := first | assumption | omega) only [flatA0, flatA1, flatA2, flatA3, flatA4, Nat.reduceAdd, Nat.reduceLT, Nat.reduceLeDiff, Nat.reduceEqDiff, Nat.reduceMul, ↓reduceIte, gf_nil, gf_lev, gf_zero, and_self, true_and, and_true]; done) | fail) only [stepA0, stepA1, stepA2, stepA3, stepA4, stepA5, stepA6, stepA7, stepA8, stepA9, ↓reduceIte, Nat.reduceLT, Nat.reduceEqDiff, Nat.reduceAdd, Nat.reduceLeDiff, kAlive, kBig, hs, hs', decide_true, decide_false, gf_nil, gf_lev, gf_zero, and_self, true_and, and_true]
      exact ⟨_, _, rfl⟩
    · have hs1 : s.el.length ≤ 200 := by omega
      have hs2 : s'.el.length ≤ 200 := by omega
      have a1 : ∀ m h, GF m h → _ := fun m h hg => kSuc (m := m) (h := h) (N := N) (k := k) hs1 hg
      have a2 : ∀ m h, GF m h → _ := fun m h hg => kRSuc (m := m) (h := h) (N := N) (k := k) hs1 hg
      have a3 : ∀ m h, GF m h → _ := fun m h hg => kMax (m := m) (h := h) (N := N) (N' := N') hs1 hs2 hg
      have a4 : ∀ m h, GF m h → _ := fun m h hg => kRMax (m := m) (h := h) (N := N) (N' := N') hs1 hs2 hg
      have z1 := suc_size ⟨N, s.el⟩ k
      have z2 := max_size ⟨N, s.el⟩ ⟨N', s'.el⟩
      generalize Lev.suc ⟨N, s.el⟩ k = R1 at a1 a2 z1
      generalize Lev.max2 ⟨N, s.el⟩ ⟨N', s'.el⟩ = R2 at a3 a4 z2
      obtain ⟨⟨n1, v1⟩, e1⟩ := R1
      obtain ⟨⟨n2, v2⟩, e2⟩ := R2
      have x1 : ∀ m h, GF m h → _ := fun m h hg => kExact (m := m) (h := h) (N := n1) (N' := n1) (s := Sl.app v1) (s' := Sl.app v1) (sz_app (Nat.le_trans z1 (by decide))) (sz_app (Nat.le_trans z1 (by decide))) hg
      have x2 : ∀ m h, GF m h → _ := fun m h hg => kExact (m := m) (h := h) (N := n2) (N' := n2) (s := Sl.app v2) (s' := Sl.app v2) (sz_app (Nat.le_trans z2 (by decide))) (sz_app (Nat.le_trans z2 (by decide))) hg
      simp only [and_self, decide_true] at x1 x2
      simp (disch := first | assumption | omega | (simp (disch := first | assumption | omega) only [flatA0, flatA1, flatA2, flatA3, flatA4, Nat.reduceAdd, Nat.reduceLT, Nat.reduceLeDiff, Nat.reduceEqDiff, Nat.reduceMul, ↓reduceIte, gf_nil, gf_lev, gf_zero, and_self, true_and, and_true]; done) | fail) only [stepA0, stepA1, stepA2, stepA3, stepA4, stepA5, stepA6, stepA7, stepA8, stepA9, ↓reduceIte, Nat.reduceLT, Nat.reduceEqDiff, Nat.reduceAdd, Nat.reduceLeDiff, kAlive, kBig, hs, hs', decide_true, decide_false, a1, a2, a3, a4, kNum, x1, x2, gf_nil, gf_lev, gf_zero, and_self, true_and, and_true]
      exact ⟨_, _, rfl⟩

set_option maxRecDepth 100000 in
theorem lm_lifted (os : Os) (started : os.Started) (H : Type) (enc : TypeId × Value → H) :
    ReturnsInHanded {} Go.Proofs.Try.checked os 10 .any (Rows.levelMakesSpec.pre6 enc Go.Proofs.Try.prog Go.Proofs.Try.f10 Rows.levelMakesRow.domain false) (Rows.levelMakesSpec.post enc Go.Proofs.Try.prog Go.Proofs.Try.f10 false true false false) := by
  refine law_lifted (C := Go.Proofs.Try.checked) (tb := 4) own started (by kernel_rfl) Go.Proofs.Try.func10
    (ChangeSpec.witness6 (enc := enc) (C := Go.Proofs.Try.checked) false ⟨#[], #[.agg #[.int .i64 0, .slice none 0 0], .agg #[.int .i64 0, .slice none 0 0], .int .i64 0], []⟩ 8 (by kernel_rfl) (by kernel_rfl) (by kernel_rfl) (by kernel_rfl))
    mixed laidOut rowed_maps full_slices (by kernel_rfl) rfl (by kernel_rfl) rfl ?_ ?_
  · intro ds hl
    match ds, hl with
    | [_, _, _], _ => rfl
  · intro ds l hA
    have hA : ArgsAre Go.Proofs.Try.prog [43, 43, 3] ds l := hA
    obtain ⟨x, y, z, f1, f2, f3, rfl, h1, h2, h3⟩ := args_three hA
    obtain ⟨l1, e1⟩ := lev_arg _ _ h1
    obtain ⟨l2, e2⟩ := lev_arg _ _ h2
    obtain ⟨k, e3, _⟩ := int_arg (k := .i64) (by kernel_rfl) h3
    rw [e1, e2, e3]
    exact lm_run l1.n l2.n k l1.vs l2.vs

theorem LevelMakes_holds : Rows.LevelMakesSaid :=
  OpenClaim.holds_of_wide 10 Go.Proofs.Try.f10 rfl rfl rfl rfl rfl rfl rfl ⟨rfl, rfl, rfl, rfl, rfl⟩ rfl rfl rfl rfl rfl (by kernel_rfl) Go.Proofs.Try.func10 (by kernel_rfl)
    (of_decide_eq_true (by kernel_rfl)) (by unfold Func.isWrapper; first | (rw [if_pos (by decide +kernel)]; kernel_rfl) | (rw [if_neg (by decide +kernel)]; exact ⟨rfl, rfl⟩))
    (fun os started H enc _ => lm_lifted os started H enc)
end Go.Proofs.Ytjagmfgjlfkmgaa
