/- LevelSteps: so many times one more is so many more, up to the greatest level. No condition. -/
import Derived.Test.YtjagmfgjlfkmgaaLG
set_option linter.unusedSimpArgs false
set_option linter.unusedVariables false
namespace Go.Proofs.Ytjagmfgjlfkmgaa
open Go Go.ChangeShapes Go.WideShapes Go.ChangeAt Go.RowKit

theorem suc_three {a k : Int} (h0 : 0 ≤ a) (h1 : a ≤ 1000) (hk : 0 ≤ k) : Lev.suc ⟨0, [(3, a)]⟩ k = if a + k ≤ 1000 then (⟨0, [(3, a + k)]⟩, 0) else (⟨0, []⟩, 13) := by
  have r1 : Lev.right ⟨0, [(3, a)]⟩ = true := by rw [right_iff]; simp; omega
  have n1 : ∀ x : Int, nfL [((3 : Int), x)] = [(3, x)] := fun x => nfL_srt (srt_single _)
  have z1 : ∀ x y : Int, 0 ≤ x → x ≤ y → zn x [((3 : Int), y)] = 0 := fun x y h h' => by unfold zn; simp; omega
  have m1 : Lev.norm ⟨0, [(3, a)]⟩ = ⟨0, [(3, a)]⟩ := by unfold Lev.norm; simp only [n1]; rw [zn]; split <;> rfl
  have m2 : ∀ x y : Int, x ≤ y → Lev.norm ⟨x, [(3, y)]⟩ = ⟨0, [(3, y)]⟩ := fun x y h => by
    unfold Lev.norm; simp only [n1]; unfold zn; simp [h]
  unfold Lev.suc
  rw [if_pos r1, if_neg (by omega), m1]
  unfold Lev.more
  simp only [List.map_cons, List.map_nil, addV]
  unfold Lev.told
  rw [m2 (0 + k) (a + k) (by omega)]
  by_cases h2 : 1000 < k
  · rw [if_pos h2, if_neg (by omega)]
  · rw [if_neg h2]
    by_cases h3 : a + k ≤ 1000
    · rw [if_pos h3, if_pos (by rw [right_iff]; simp; omega)]
    · rw [if_neg h3, if_neg (by rw [right_iff]; simp; omega)]

set_option maxHeartbeats 4000000 in
theorem ls_run (N f : Int) : ∃ n' h', callFn (LX (cF Go.Proofs.Try.prog)) 0 [] [.int .i64 N, .int .i64 f] ((cF Go.Proofs.Try.prog) 11) = .ok (.bool true) n' h' := by
  rw [f11_eq]; unfold c11; rw [callFn_eq (by rfl)]
  by_cases x1 : N < 0
  · simp (disch := first | assumption | omega | (simp (disch := first | assumption | omega) only [flatA0, flatA1, flatA2, flatA3, flatA4, Nat.reduceAdd, Nat.reduceLT, Nat.reduceLeDiff, Nat.reduceEqDiff, Nat.reduceMul, ↓reduceIte, gf_nil]; done) | fail) only [stepA0, stepA1, stepA2, stepA3, stepA4, stepA5, stepA6, stepA7, stepA8, stepA9, ↓reduceIte, Nat.reduceLT, Nat.reduceEqDiff, Nat.reduceAdd, Nat.reduceLeDiff, kAlive, x1, gf_nil]
    exact ⟨_, _, rfl⟩
  by_cases x2 : N > 1200
  · simp (disch := first | assumption | omega | (simp (disch := first | assumption | omega) only [flatA0, flatA1, flatA2, flatA3, flatA4, Nat.reduceAdd, Nat.reduceLT, Nat.reduceLeDiff, Nat.reduceEqDiff, Nat.reduceMul, ↓reduceIte, gf_nil]; done) | fail) only [stepA0, stepA1, stepA2, stepA3, stepA4, stepA5, stepA6, stepA7, stepA8, stepA9, ↓reduceIte, Nat.reduceLT, Nat.reduceEqDiff, Nat.reduceAdd, Nat.reduceLeDiff, kAlive, x1, x2, gf_nil]
    exact ⟨_, _, rfl⟩
  by_cases x3 : f < 0
  · simp (disch := first | assumption | omega | (simp (disch := first | assumption | omega) only [flatA0, flatA1, flatA2, flatA3, flatA4, Nat.reduceAdd, Nat.reduceLT, Nat.reduceLeDiff, Nat.reduceEqDiff, Nat.reduceMul, ↓reduceIte, gf_nil]; done) | fail) only [stepA0, stepA1, stepA2, stepA3, stepA4, stepA5, stepA6, stepA7, stepA8, stepA9, ↓reduceIte, Nat.reduceLT, Nat.reduceEqDiff, Nat.reduceAdd, Nat.reduceLeDiff, kAlive, x1, x2, x3, gf_nil]
    exact ⟨_, _, rfl⟩
  by_cases x4 : f > 1000
  · simp (disch := first | assumption | omega | (simp (disch := first | assumption | omega) only [flatA0, flatA1, flatA2, flatA3, flatA4, Nat.reduceAdd, Nat.reduceLT, Nat.reduceLeDiff, Nat.reduceEqDiff, Nat.reduceMul, ↓reduceIte, gf_nil]; done) | fail) only [stepA0, stepA1, stepA2, stepA3, stepA4, stepA5, stepA6, stepA7, stepA8, stepA9, ↓reduceIte, Nat.reduceLT, Nat.reduceEqDiff, Nat.reduceAdd, Nat.reduceLeDiff, kAlive, x1, x2, x3, x4, gf_nil]
    exact ⟨_, _, rfl⟩
  obtain ⟨t, rfl⟩ : ∃ t : Nat, N = (t : Int) := ⟨N.toNat, by omega⟩
  simp (disch := first | assumption | omega | (simp (disch := first | assumption | omega) only [flatA0, flatA1, flatA2, flatA3, flatA4, Nat.reduceAdd, Nat.reduceLT, Nat.reduceLeDiff, Nat.reduceEqDiff, Nat.reduceMul, ↓reduceIte, gf_nil]; done) | fail) only [stepA0, stepA1, stepA2, stepA3, stepA4, stepA5, stepA6, stepA7, stepA8, stepA9, ↓reduceIte, Nat.reduceLT, Nat.reduceEqDiff, Nat.reduceAdd, Nat.reduceLeDiff, kAlive, kV, x1, x2, x3, x4, gf_nil]
  generalize hr : LX (cF Go.Proofs.Try.prog) (.loop l11_0) _ _ _ = r
  have loop : ∀ {q n0 : Nat} {e : Tr} {h' : Hps} {r : Re}, LX (cF Go.Proofs.Try.prog) (.loop l11_0) e n0 h' = r → Hp 0 [] n0 h' → q + 1 ≤ n0 → getO h' q = (Ob.row 2 [.agg [.int .i64 (0), slD 2 encV (one1 ((3 : Int), f))]]) → get (po 0) e = .int .i64 (t : Nat) → get (po 1) e = .int .i64 f → get (po 6) e = .ptr q 0 0 → get (po 7) e = .int .i64 0 →
      ∃ x e n' h', r = .ok x e n' h' ∧ Hp 0 [] n' h' ∧ q + 1 ≤ n' ∧ ((x = .exit 0 ∧ (∃ s : Sl LV, s.el = [((3 : Int), f + (t : Nat))] ∧ getO h' q = (Ob.row 2 [.agg [.int .i64 (0), slD 2 encV (s)]])) ∧ f + (t : Nat) ≤ 1000 ∧ get (po 0) e = .int .i64 (t : Nat) ∧ get (po 1) e = .int .i64 f ∧ get (po 6) e = .ptr q 0 0) ∨ (x = .ret ∧ get (po 4) e = .bool true)) := by
    intro q n0 e h' r hr H p1 b6 g0 g1 g6 g7
    refine loop_up hr t
      (fun i e n' h' => Hp 0 [] n' h' ∧ q + 1 ≤ n' ∧ (∃ s : Sl LV, s.el = [((3 : Int), f + (i : Nat))] ∧ getO h' q = (Ob.row 2 [.agg [.int .i64 (0), slD 2 encV (s)]])) ∧ f + (i : Nat) ≤ 1000 ∧ get (po 0) e = .int .i64 (t : Nat) ∧ get (po 1) e = .int .i64 f ∧ get (po 6) e = .ptr q 0 0 ∧ get (po 7) e = .int .i64 (i : Nat))
      (fun x e n' h' => Hp 0 [] n' h' ∧ q + 1 ≤ n' ∧ ((x = .exit 0 ∧ (∃ s : Sl LV, s.el = [((3 : Int), f + (t : Nat))] ∧ getO h' q = (Ob.row 2 [.agg [.int .i64 (0), slD 2 encV (s)]])) ∧ f + (t : Nat) ≤ 1000 ∧ get (po 0) e = .int .i64 (t : Nat) ∧ get (po 1) e = .int .i64 f ∧ get (po 6) e = .ptr q 0 0) ∨ (x = .ret ∧ get (po 4) e = .bool true)))
      ?_ ?_ ⟨H, p1, ⟨one1 (3, f), by simp, b6⟩, by omega, g0, g1, g6, g7⟩
    · rintro e n' h' ⟨H, p1, hs, hf, g0, g1, g6, g7⟩
      unfold l11_0
      simp (disch := first | assumption | omega | (simp (disch := first | assumption | omega) only [flatA0, flatA1, flatA2, flatA3, flatA4, Nat.reduceAdd, Nat.reduceLT, Nat.reduceLeDiff, Nat.reduceEqDiff, Nat.reduceMul, ↓reduceIte]; done) | fail) only [stepA0, stepA1, stepA2, stepA3, stepA4, stepA5, stepA6, stepA7, stepA8, stepA9, ↓reduceIte, Nat.reduceLT, Nat.reduceEqDiff, Nat.reduceAdd, Nat.reduceLeDiff, g0, g7]
      exact ⟨_, _, _, _, rfl, by simp, H.mono (by omega), by omega, .inl ⟨rfl, hs, hf, by simp (disch := first | assumption | omega | (simp (disch := first | assumption | omega) only [flatA0, flatA1, flatA2, flatA3, flatA4, Nat.reduceAdd, Nat.reduceLT, Nat.reduceLeDiff, Nat.reduceEqDiff, Nat.reduceMul, ↓reduceIte]; done) | fail) only [stepA0, stepA1, stepA2, stepA3, stepA4, stepA5, stepA6, stepA7, stepA8, stepA9, ↓reduceIte, Nat.reduceLT, Nat.reduceEqDiff, Nat.reduceAdd, Nat.reduceLeDiff, g0], by simp (disch := first | assumption | omega | (simp (disch := first | assumption | omega) only [flatA0, flatA1, flatA2, flatA3, flatA4, Nat.reduceAdd, Nat.reduceLT, Nat.reduceLeDiff, Nat.reduceEqDiff, Nat.reduceMul, ↓reduceIte]; done) | fail) only [stepA0, stepA1, stepA2, stepA3, stepA4, stepA5, stepA6, stepA7, stepA8, stepA9, ↓reduceIte, Nat.reduceLT, Nat.reduceEqDiff, Nat.reduceAdd, Nat.reduceLeDiff, g1], by simp (disch := first | assumption | omega | (simp (disch := first | assumption | omega) only [flatA0, flatA1, flatA2, flatA3, flatA4, Nat.reduceAdd, Nat.reduceLT, Nat.reduceLeDiff, Nat.reduceEqDiff, Nat.reduceMul, ↓reduceIte]; done) | fail) only [stepA0, stepA1, stepA2, stepA3, stepA4, stepA5, stepA6, stepA7, stepA8, stepA9, ↓reduceIte, Nat.reduceLT, Nat.reduceEqDiff, Nat.reduceAdd, Nat.reduceLeDiff, g6]⟩⟩
    · rintro i e n' h' hi ⟨H, p1, ⟨s, hs, b6⟩, hf, g0, g1, g6, g7⟩
      have c1 : ∀ m, n' ≤ m → callFn (LX (cF Go.Proofs.Try.prog)) m h' [(D.agg [.int .i64 (0), slD 2 encV (s)]), .int .i64 1] (cF Go.Proofs.Try.prog 41) = .ok (D.tup [.agg [.int .i64 (Lev.suc ⟨0, s.el⟩ 1).1.n, slD 2 encV (Sl.app (Lev.suc ⟨0, s.el⟩ 1).1.v)], .int .i64 (Lev.suc ⟨0, s.el⟩ 1).2]) m h' := fun m hm => lvSuc m h' (H.good' hm) 0 1 _ _ _ (svV s) (by rw [hs]; simp)
      have c2 : ∀ (R : Lev) r m a, n' ≤ r → r + 1 ≤ m → callFn (LX (cF Go.Proofs.Try.prog)) m ((r, (Ob.row 2 [.agg [.int .i64 (R.n), slD 2 encV (Sl.app R.v)]])) :: h') [.int .i64 a] (cF Go.Proofs.Try.prog 39) = .ok (.int .i64 a) m ((r, (Ob.row 2 [.agg [.int .i64 (R.n), slD 2 encV (Sl.app R.v)]])) :: h') := fun R r m a h1 h2 => lawNum m _ ((H.box (r := r) (m := r + 1) h1 (by omega) (flatL ⟨R.n, Sl.app R.v⟩)).good' h2) a
      rw [hs, suc_three (by omega) hf (by omega)] at c1
      have e1 : f + (i : Nat) + 1 = f + ((i + 1 : Nat) : Int) := by omega
      have e2 : q ≠ n' + 9 := by omega
      unfold l11_0
      by_cases x5 : f + (i : Nat) + 1 ≤ 1000
      · rw [if_pos x5] at c1
        replace c2 := c2 ⟨0, [(3, f + (i : Nat) + 1)]⟩
        simp only at c1 c2
        simp (disch := first | assumption | omega | (simp (disch := first | assumption | omega) only [flatA0, flatA1, flatA2, flatA3, flatA4, Nat.reduceAdd, Nat.reduceLT, Nat.reduceLeDiff, Nat.reduceEqDiff, Nat.reduceMul, ↓reduceIte]; done) | fail) only [stepA0, stepA1, stepA2, stepA3, stepA4, stepA5, stepA6, stepA7, stepA8, stepA9, ↓reduceIte, Nat.reduceLT, Nat.reduceEqDiff, Nat.reduceAdd, Nat.reduceLeDiff, c1, c2, g0, g1, g6, g7, b6]
        refine ⟨_, _, _, _, rfl, .inl ⟨rfl, ((H.set (r := q) (by omega) (fun k _ => lowO_one (low_flat (flatL ⟨0, Sl.app [(3, f + (i : Nat) + 1)]⟩)))).box (r := n' + 9) (m := n' + 10) (by omega) (by omega) (flatL ⟨0, Sl.app [(3, f + (i : Nat) + 1)]⟩)).mono (by omega), by omega, ⟨Sl.app [(3, f + (i : Nat) + 1)], by rw [← e1]; rfl, getO_keep (getO_set1 b6) e2⟩, by omega, by simp (disch := first | assumption | omega | (simp (disch := first | assumption | omega) only [flatA0, flatA1, flatA2, flatA3, flatA4, Nat.reduceAdd, Nat.reduceLT, Nat.reduceLeDiff, Nat.reduceEqDiff, Nat.reduceMul, ↓reduceIte]; done) | fail) only [stepA0, stepA1, stepA2, stepA3, stepA4, stepA5, stepA6, stepA7, stepA8, stepA9, ↓reduceIte, Nat.reduceLT, Nat.reduceEqDiff, Nat.reduceAdd, Nat.reduceLeDiff, g0], by simp (disch := first | assumption | omega | (simp (disch := first | assumption | omega) only [flatA0, flatA1, flatA2, flatA3, flatA4, Nat.reduceAdd, Nat.reduceLT, Nat.reduceLeDiff, Nat.reduceEqDiff, Nat.reduceMul, ↓reduceIte]; done) | fail) only [stepA0, stepA1, stepA2, stepA3, stepA4, stepA5, stepA6, stepA7, stepA8, stepA9, ↓reduceIte, Nat.reduceLT, Nat.reduceEqDiff, Nat.reduceAdd, Nat.reduceLeDiff, g1], by simp (disch := first | assumption | omega | (simp (disch := first | assumption | omega) only [flatA0, flatA1, flatA2, flatA3, flatA4, Nat.reduceAdd, Nat.reduceLT, Nat.reduceLeDiff, Nat.reduceEqDiff, Nat.reduceMul, ↓reduceIte]; done) | fail) only [stepA0, stepA1, stepA2, stepA3, stepA4, stepA5, stepA6, stepA7, stepA8, stepA9, ↓reduceIte, Nat.reduceLT, Nat.reduceEqDiff, Nat.reduceAdd, Nat.reduceLeDiff, g6], by simp (disch := first | assumption | omega | (simp (disch := first | assumption | omega) only [flatA0, flatA1, flatA2, flatA3, flatA4, Nat.reduceAdd, Nat.reduceLT, Nat.reduceLeDiff, Nat.reduceEqDiff, Nat.reduceMul, ↓reduceIte]; done) | fail) only [stepA0, stepA1, stepA2, stepA3, stepA4, stepA5, stepA6, stepA7, stepA8, stepA9, ↓reduceIte, Nat.reduceLT, Nat.reduceEqDiff, Nat.reduceAdd, Nat.reduceLeDiff]⟩⟩
      · rw [if_neg x5] at c1
        replace c2 := c2 ⟨0, []⟩
        simp only [slD_nil] at c1 c2
        simp (disch := first | assumption | omega | (simp (disch := first | assumption | omega) only [flatA0, flatA1, flatA2, flatA3, flatA4, Nat.reduceAdd, Nat.reduceLT, Nat.reduceLeDiff, Nat.reduceEqDiff, Nat.reduceMul, ↓reduceIte]; done) | fail) only [stepA0, stepA1, stepA2, stepA3, stepA4, stepA5, stepA6, stepA7, stepA8, stepA9, ↓reduceIte, Nat.reduceLT, Nat.reduceEqDiff, Nat.reduceAdd, Nat.reduceLeDiff, c1, c2, g0, g1, g6, g7, b6]
        refine ⟨_, _, _, _, rfl, .inr ⟨by simp, (H.box (r := n' + 9) (m := n' + 10) (by omega) (by omega) (flatL ⟨0, Sl.app []⟩)).mono (by omega), by omega, .inr ⟨rfl, by simp (disch := first | assumption | omega | (simp (disch := first | assumption | omega) only [flatA0, flatA1, flatA2, flatA3, flatA4, Nat.reduceAdd, Nat.reduceLT, Nat.reduceLeDiff, Nat.reduceEqDiff, Nat.reduceMul, ↓reduceIte]; done) | fail) only [stepA0, stepA1, stepA2, stepA3, stepA4, stepA5, stepA6, stepA7, stepA8, stepA9, ↓reduceIte, Nat.reduceLT, Nat.reduceEqDiff, Nat.reduceAdd, Nat.reduceLeDiff]⟩⟩⟩
  obtain ⟨x, e2, n2, h2, rfl, H2, p2, q⟩ := loop hr (q := 25) (((Hp.start (fun _ _ => good_nil)).box (r := 25) (m := 26) (by omega) (by omega) (flatL ⟨0, one1 (3, f)⟩)).mono (by omega)) (by omega) (by simp (disch := first | assumption | omega | (simp (disch := first | assumption | omega) only [flatA0, flatA1, flatA2, flatA3, flatA4, Nat.reduceAdd, Nat.reduceLT, Nat.reduceLeDiff, Nat.reduceEqDiff, Nat.reduceMul, ↓reduceIte]; done) | fail) only [stepA0, stepA1, stepA2, stepA3, stepA4, stepA5, stepA6, stepA7, stepA8, stepA9, ↓reduceIte, Nat.reduceLT, Nat.reduceEqDiff, Nat.reduceAdd, Nat.reduceLeDiff]) (by simp (disch := first | assumption | omega | (simp (disch := first | assumption | omega) only [flatA0, flatA1, flatA2, flatA3, flatA4, Nat.reduceAdd, Nat.reduceLT, Nat.reduceLeDiff, Nat.reduceEqDiff, Nat.reduceMul, ↓reduceIte]; done) | fail) only [stepA0, stepA1, stepA2, stepA3, stepA4, stepA5, stepA6, stepA7, stepA8, stepA9, ↓reduceIte, Nat.reduceLT, Nat.reduceEqDiff, Nat.reduceAdd, Nat.reduceLeDiff]) (by simp (disch := first | assumption | omega | (simp (disch := first | assumption | omega) only [flatA0, flatA1, flatA2, flatA3, flatA4, Nat.reduceAdd, Nat.reduceLT, Nat.reduceLeDiff, Nat.reduceEqDiff, Nat.reduceMul, ↓reduceIte]; done) | fail) only [stepA0, stepA1, stepA2, stepA3, stepA4, stepA5, stepA6, stepA7, stepA8, stepA9, ↓reduceIte, Nat.reduceLT, Nat.reduceEqDiff, Nat.reduceAdd, Nat.reduceLeDiff]) (by simp (disch := first | assumption | omega | (simp (disch := first | assumption | omega) only [flatA0, flatA1, flatA2, flatA3, flatA4, Nat.reduceAdd, Nat.reduceLT, Nat.reduceLeDiff, Nat.reduceEqDiff, Nat.reduceMul, ↓reduceIte]; done) | fail) only [stepA0, stepA1, stepA2, stepA3, stepA4, stepA5, stepA6, stepA7, stepA8, stepA9, ↓reduceIte, Nat.reduceLT, Nat.reduceEqDiff, Nat.reduceAdd, Nat.reduceLeDiff]) (by simp (disch := first | assumption | omega | (simp (disch := first | assumption | omega) only [flatA0, flatA1, flatA2, flatA3, flatA4, Nat.reduceAdd, Nat.reduceLT, Nat.reduceLeDiff, Nat.reduceEqDiff, Nat.reduceMul, ↓reduceIte]; done) | fail) only [stepA0, stepA1, stepA2, stepA3, stepA4, stepA5, stepA6, stepA7, stepA8, stepA9, ↓reduceIte, Nat.reduceLT, Nat.reduceEqDiff, Nat.reduceAdd, Nat.reduceLeDiff])
  rcases q with ⟨rfl, ⟨s, hs, b6⟩, hf, g0, g1, g6⟩ | ⟨rfl, g4⟩
  · have hg2 := H2.good' (Nat.le_refl _)
    have c0 : ∀ m a b, n2 ≤ m → callFn (LX (cF Go.Proofs.Try.prog)) m h2 [.int .i64 a, .int .i64 b] (cF Go.Proofs.Try.prog 32) = .ok (D.agg [.int .i64 (0), slD 2 encV (one1 (a, b))]) m h2 := fun m a b hm => lawV m h2 (H2.good' hm) a b
    have c1 : ∀ m, n2 ≤ m → callFn (LX (cF Go.Proofs.Try.prog)) m h2 [(D.agg [.int .i64 (0), slD 2 encV (one1 ((3 : Int), f))]), .int .i64 (t : Nat)] (cF Go.Proofs.Try.prog 41) = .ok (D.tup [.agg [.int .i64 (Lev.suc ⟨0, [((3 : Int), f)]⟩ (t : Nat)).1.n, slD 2 encV (Sl.app (Lev.suc ⟨0, [((3 : Int), f)]⟩ (t : Nat)).1.v)], .int .i64 (Lev.suc ⟨0, [((3 : Int), f)]⟩ (t : Nat)).2]) m h2 := fun m hm => lvSuc m h2 (H2.good' hm) 0 (t : Nat) _ _ _ (svV (one1 ((3 : Int), f))) (show 1 < 1000000000000 by decide)
    rw [suc_three (by omega) (by omega) (by omega), if_pos hf] at c1
    simp only at c1
    have hs1 : s.el.length ≤ 200 := by rw [hs]; show 1 ≤ 200; decide
    have x1 : ∀ m h, GF m h → _ := fun m h hg => kExact (m := m) (h := h) (N := 0) (N' := 0) (s := s) (s' := Sl.app [((3 : Int), f + (t : Nat))]) hs1 (sz_app (by simp)) hg
    have x2 : ∀ m h, GF m h → _ := fun m h hg => kExact (m := m) (h := h) (N := 0) (N' := 0) (s := s) (s' := one1 ((3 : Int), f + (t : Nat))) hs1 (show 1 ≤ 200 by decide) hg
    rw [show decide ((0 : Int) = 0 ∧ s.el = (Sl.app [((3 : Int), f + (t : Nat))]).el) = true from decide_eq_true ⟨rfl, hs⟩] at x1
    rw [show decide ((0 : Int) = 0 ∧ s.el = (one1 ((3 : Int), f + (t : Nat))).el) = true from decide_eq_true ⟨rfl, hs⟩] at x2
    have HF : Hp 0 [] (n2 + 10) ((n2 + 9, (Ob.row 2 [.agg [.int .i64 (0), slD 2 encV (Sl.app [((3 : Int), f + (t : Nat))])]])) :: h2) := H2.box (r := n2 + 9) (by omega) (by omega) (flatL ⟨0, Sl.app [((3 : Int), f + (t : Nat))]⟩)
    have y0 : ∀ m, n2 + 10 ≤ m → keysFrom m ((n2 + 9, (Ob.row 2 [.agg [.int .i64 (0), slD 2 encV (Sl.app [((3 : Int), f + (t : Nat))])]])) :: h2) = [] := fun m hm => keys_low (HF.good' hm m (Nat.le_refl _))
    have y1 : ∀ m a, n2 + 10 ≤ m → callFn (LX (cF Go.Proofs.Try.prog)) m ((n2 + 9, (Ob.row 2 [.agg [.int .i64 (0), slD 2 encV (Sl.app [((3 : Int), f + (t : Nat))])]])) :: h2) [.int .i64 a] (cF Go.Proofs.Try.prog 39) = .ok (.int .i64 a) m ((n2 + 9, (Ob.row 2 [.agg [.int .i64 (0), slD 2 encV (Sl.app [((3 : Int), f + (t : Nat))])]])) :: h2) := fun m a hm => lawNum m _ (HF.good' hm) a
    have y2 : ∀ m a b, n2 + 10 ≤ m → callFn (LX (cF Go.Proofs.Try.prog)) m ((n2 + 9, (Ob.row 2 [.agg [.int .i64 (0), slD 2 encV (Sl.app [((3 : Int), f + (t : Nat))])]])) :: h2) [.int .i64 a, .int .i64 b] (cF Go.Proofs.Try.prog 32) = .ok (D.agg [.int .i64 (0), slD 2 encV (one1 (a, b))]) m ((n2 + 9, (Ob.row 2 [.agg [.int .i64 (0), slD 2 encV (Sl.app [((3 : Int), f + (t : Nat))])]])) :: h2) := fun m a b hm => lawV m _ (HF.good' hm) a b
    have y3 : ∀ (s' : Sl LV) m, s'.el = [((3 : Int), f + (t : Nat))] → n2 + 10 ≤ m → callFn (LX (cF Go.Proofs.Try.prog)) m ((n2 + 9, (Ob.row 2 [.agg [.int .i64 (0), slD 2 encV (Sl.app [((3 : Int), f + (t : Nat))])]])) :: h2) [(D.agg [.int .i64 (0), slD 2 encV (s)]), (D.agg [.int .i64 (0), slD 2 encV (s')])] (cF Go.Proofs.Try.prog 40) = .ok (.bool true) m ((n2 + 9, (Ob.row 2 [.agg [.int .i64 (0), slD 2 encV (Sl.app [((3 : Int), f + (t : Nat))])]])) :: h2) := fun s' m hs' hm => by
      rw [lawExact m _ (HF.good' hm) 0 0 _ _ _ _ _ _ (svV s) (svV s') (by omega) (by rw [hs']; show 1 < 1000000000000; decide), hs, hs']
      simp
    have y4 := fun m => y3 (Sl.app [((3 : Int), f + (t : Nat))]) m rfl
    have y5 := fun m => y3 (one1 ((3 : Int), f + (t : Nat))) m rfl
    simp (disch := first | assumption | omega | (simp (disch := first | assumption | omega) only [flatA0, flatA1, flatA2, flatA3, flatA4, Nat.reduceAdd, Nat.reduceLT, Nat.reduceLeDiff, Nat.reduceEqDiff, Nat.reduceMul, ↓reduceIte, gf_nil]; done) | fail) only [stepA0, stepA1, stepA2, stepA3, stepA4, stepA5, stepA6, stepA7, stepA8, stepA9, ↓reduceIte, Nat.reduceLT, Nat.reduceEqDiff, Nat.reduceAdd, Nat.reduceLeDiff, c0, c1, kNum, kV, x1, x2, y0, y1, y2, y4, y5, g0, g1, g6, b6, gf_nil]
    exact ⟨_, _, finish_flat (d := .bool true) rfl (HF.mono (by omega))⟩
  · simp (disch := first | assumption | omega | (simp (disch := first | assumption | omega) only [flatA0, flatA1, flatA2, flatA3, flatA4, Nat.reduceAdd, Nat.reduceLT, Nat.reduceLeDiff, Nat.reduceEqDiff, Nat.reduceMul, ↓reduceIte]; done) | fail) only [stepA0, stepA1, stepA2, stepA3, stepA4, stepA5, stepA6, stepA7, stepA8, stepA9, ↓reduceIte, Nat.reduceLT, Nat.reduceEqDiff, Nat.reduceAdd, Nat.reduceLeDiff, g4, finish_flat (d := .bool true) rfl H2]
    exact ⟨_, _, rfl⟩

set_option maxRecDepth 100000 in
theorem ls_lifted (os : Os) (started : os.Started) (H : Type) (enc : TypeId × Value → H) :
    ReturnsInHanded {} Go.Proofs.Try.checked os 11 .any (Rows.levelStepsSpec.pre6 enc Go.Proofs.Try.prog Go.Proofs.Try.f11 Rows.levelStepsRow.domain false) (Rows.levelStepsSpec.post enc Go.Proofs.Try.prog Go.Proofs.Try.f11 false true false false) := by
  refine law_lifted (C := Go.Proofs.Try.checked) (tb := 4) own started (by kernel_rfl) Go.Proofs.Try.func11
    (ChangeSpec.witness6 (enc := enc) (C := Go.Proofs.Try.checked) false ⟨#[], #[.int .i64 0, .int .i64 0], []⟩ 8 (by kernel_rfl) (by kernel_rfl) (by kernel_rfl) (by kernel_rfl))
    mixed laidOut rowed_maps full_slices (by kernel_rfl) rfl (by kernel_rfl) rfl ?_ ?_
  · intro ds hl
    match ds, hl with
    | [_, _], _ => rfl
  · intro ds l hA
    have hA : ArgsAre Go.Proofs.Try.prog [3, 3] ds l := hA
    obtain ⟨x, y, f1, f2, rfl, h1, h2⟩ := args_two hA
    obtain ⟨a, e1, _⟩ := int_arg (k := .i64) (by kernel_rfl) h1
    obtain ⟨b, e2, _⟩ := int_arg (k := .i64) (by kernel_rfl) h2
    rw [e1, e2]
    exact ls_run a b

theorem LevelSteps_holds : Rows.LevelStepsSaid :=
  OpenClaim.holds_of_wide 11 Go.Proofs.Try.f11 rfl rfl rfl rfl rfl rfl rfl ⟨rfl, rfl, rfl, rfl, rfl⟩ rfl rfl rfl rfl rfl (by kernel_rfl) Go.Proofs.Try.func11 (by kernel_rfl)
    (of_decide_eq_true (by kernel_rfl)) (by unfold Func.isWrapper; first | (rw [if_pos (by decide +kernel)]; kernel_rfl) | (rw [if_neg (by decide +kernel)]; exact ⟨rfl, rfl⟩))
    (fun os started H enc _ => ls_lifted os started H enc)
end Go.Proofs.Ytjagmfgjlfkmgaa
