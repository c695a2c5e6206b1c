/- LevelCompares: the program's comparisons answer what the reference's do, for all levels. No condition. -/
import Derived.Test.YtjagmfgjlfkmgaaLI
set_option linter.unusedSimpArgs false
set_option linter.unusedVariables false
namespace Go.Proofs.Ytjagmfgjlfkmgaa
open Go Go.ChangeShapes Go.WideShapes Go.ChangeAt Go.RowKit

set_option maxRecDepth 8000 in
theorem lc_run (N N' : Int) (s s' : Sl LV) : ∃ n' h', callFn (LX (cF Go.Proofs.Try.prog)) 0 [] [(D.agg [.int .i64 (N), slD 2 encV (s)]), (D.agg [.int .i64 (N'), slD 2 encV (s')])] ((cF Go.Proofs.Try.prog) 14) = .ok (.bool true) n' h' := by
  rw [f14_eq]; unfold c14; rw [callFn_eq (by rfl)]
  by_cases hs : 200 < s.el.length
  · simp (disch := first | assumption | omega | (simp (disch := first | assumption | omega) only [flatA0, flatA1, flatA2, flatA3, flatA4, Nat.reduceAdd, Nat.reduceLT, Nat.reduceLeDiff, Nat.reduceEqDiff, Nat.reduceMul, ↓reduceIte, gf_nil, gf_lev, gf_zero, and_self, true_and, and_true]; done) | fail) only [stepA0, stepA1, stepA2, stepA3, stepA4, stepA5, stepA6, stepA7, stepA8, stepA9, ↓reduceIte, Nat.reduceLT, Nat.reduceEqDiff, Nat.reduceAdd, Nat.reduceLeDiff, kAlive, kBig, hs, decide_true, gf_nil, gf_lev, gf_zero, and_self, true_and, and_true]
    exact ⟨_, _, rfl⟩
  · by_cases hs' : 200 < s'.el.length
    · simp (disch := first | assumption | omega | (simp (disch := first | assumption | omega) only [flatA0, flatA1, flatA2, flatA3, flatA4, Nat.reduceAdd, Nat.reduceLT, Nat.reduceLeDiff, Nat.reduceEqDiff, Nat.reduceMul, ↓reduceIte, gf_nil, gf_lev, gf_zero, and_self, true_and, and_true]; done) | fail) only [stepA0, stepA1, stepA2, stepA3, stepA4, stepA5, stepA6, stepA7, stepA8, stepA9, ↓reduceIte, Nat.reduceLT, Nat.reduceEqDiff, Nat.reduceAdd, Nat.reduceLeDiff, kAlive, kBig, hs, hs', decide_true, decide_false, gf_nil, gf_lev, gf_zero, and_self, true_and, and_true] <;>
      exact ⟨_, _, rfl⟩
    · have hs1 : s.el.length ≤ 200 := by omega
      have hs2 : s'.el.length ≤ 200 := by omega
      have a1 : ∀ m h, GF m h → _ := fun m h hg => kLeq (m := m) (h := h) (N := N) (N' := N') hs1 hs2 hg
      have a2 : ∀ m h, GF m h → _ := fun m h hg => kRLeq (m := m) (h := h) (N := N) (N' := N') hs1 hs2 hg
      have a3 : ∀ m h, GF m h → _ := fun m h hg => kSame (m := m) (h := h) (N := N) (N' := N') hs1 hs2 hg
      have a4 : ∀ m h, GF m h → _ := fun m h hg => kRSame (m := m) (h := h) (N := N) (N' := N') hs1 hs2 hg
      generalize Lev.leq ⟨N, s.el⟩ ⟨N', s'.el⟩ = R1 at a1 a2
      generalize Lev.same ⟨N, s.el⟩ ⟨N', s'.el⟩ = R2 at a3 a4
      cases R1 <;> cases R2 <;>
      simp (disch := first | assumption | omega | (simp (disch := first | assumption | omega) only [flatA0, flatA1, flatA2, flatA3, flatA4, Nat.reduceAdd, Nat.reduceLT, Nat.reduceLeDiff, Nat.reduceEqDiff, Nat.reduceMul, ↓reduceIte, gf_nil, gf_lev, gf_zero, and_self, true_and, and_true]; done) | fail) only [stepA0, stepA1, stepA2, stepA3, stepA4, stepA5, stepA6, stepA7, stepA8, stepA9, ↓reduceIte, Nat.reduceLT, Nat.reduceEqDiff, Nat.reduceAdd, Nat.reduceLeDiff, kAlive, kBig, hs, hs', decide_true, decide_false, a1, a2, a3, a4, beq_self_eq_true, keys_gf, gf_nil, gf_lev, gf_zero, and_self, true_and, and_true] <;>
      exact ⟨_, _, rfl⟩

set_option maxRecDepth 100000 in
theorem lc_lifted (os : Os) (started : os.Started) (H : Type) (enc : TypeId × Value → H) :
    ReturnsInHanded {} Go.Proofs.Try.checked os 14 .any (Rows.levelComparesSpec.pre6 enc Go.Proofs.Try.prog Go.Proofs.Try.f14 Rows.levelComparesRow.domain false) (Rows.levelComparesSpec.post enc Go.Proofs.Try.prog Go.Proofs.Try.f14 false true false false) := by
  refine law_lifted (C := Go.Proofs.Try.checked) (tb := 4) own started (by kernel_rfl) Go.Proofs.Try.func14
    (ChangeSpec.witness6 (enc := enc) (C := Go.Proofs.Try.checked) false ⟨#[], #[.agg #[.int .i64 0, .slice none 0 0], .agg #[.int .i64 0, .slice none 0 0]], []⟩ 8 (by kernel_rfl) (by kernel_rfl) (by kernel_rfl) (by kernel_rfl))
    mixed laidOut rowed_maps full_slices (by kernel_rfl) rfl (by kernel_rfl) rfl ?_ ?_
  · intro ds hl
    match ds, hl with
    | [_, _], _ => rfl
  · intro ds l hA
    have hA : ArgsAre Go.Proofs.Try.prog [43, 43] ds l := hA
    obtain ⟨x, y, f1, f2, rfl, h1, h2⟩ := args_two hA
    obtain ⟨l1, e1⟩ := lev_arg _ _ h1
    obtain ⟨l2, e2⟩ := lev_arg _ _ h2
    rw [e1, e2]
    exact lc_run l1.n l2.n l1.vs l2.vs

theorem LevelCompares_holds : Rows.LevelComparesSaid :=
  OpenClaim.holds_of_wide 14 Go.Proofs.Try.f14 rfl rfl rfl rfl rfl rfl rfl ⟨rfl, rfl, rfl, rfl, rfl⟩ rfl rfl rfl rfl rfl (by kernel_rfl) Go.Proofs.Try.func14 (by kernel_rfl)
    (of_decide_eq_true (by kernel_rfl)) (by unfold Func.isWrapper; first | (rw [if_pos (by decide +kernel)]; kernel_rfl) | (rw [if_neg (by decide +kernel)]; exact ⟨rfl, rfl⟩))
    (fun os started H enc _ => lc_lifted os started H enc)
end Go.Proofs.Ytjagmfgjlfkmgaa
