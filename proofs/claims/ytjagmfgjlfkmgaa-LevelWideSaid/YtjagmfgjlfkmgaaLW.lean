/- LevelWide: a level may have 64 variables, no more. No condition. -/
import Derived.Test.YtjagmfgjlfkmgaaLO
set_option linter.unusedSimpArgs false
set_option linter.unusedVariables false
namespace Go.Proofs.Ytjagmfgjlfkmgaa
open Go Go.ChangeShapes Go.WideShapes Go.ChangeAt Go.RowKit

theorem Bld.keep {α : Type} {enc : α → D} {k n1 m : Nat} {l : List α} {d : D} {h h' : Hps} (hB : Bld k enc n1 l h d) (hg : GoodAt m h) (hk : ∀ q, q < m → getO h' q = getO h q) : Bld k enc n1 l h' d := by
  rcases hB with hB | ⟨r, q1, q2, q3, q4⟩
  · exact .inl hB
  · exact .inr ⟨r, q1, q2, q3, by rw [hk r (getO_low hg (show getO h r ≠ .none by rw [q4]; exact fun h => by cases h))]; exact q4⟩

/-- so many variables from number b on -/
def vs (b : Int) (t : Nat) : List LV := (List.range t).map fun i : Nat => (b + (i : Int), 0)
theorem vs_len (b : Int) (t : Nat) : (vs b t).length = t := by unfold vs; rw [List.length_map, List.length_range]
theorem vs_succ (b : Int) (t : Nat) : vs b (t + 1) = vs b t ++ [(b + (t : Int), 0)] := by unfold vs; rw [List.range_succ, List.map_append]; rfl
theorem vs_mem {b : Int} {t : Nat} {p : LV} (h : p ∈ vs b t) : b ≤ p.1 ∧ p.1 < b + t ∧ p.2 = 0 := by
  obtain ⟨i, hi, rfl⟩ := List.mem_map.1 h
  have := List.mem_range.1 hi
  exact ⟨by show b ≤ b + (i : Int); omega, by show b + (i : Int) < b + t; omega, rfl⟩
theorem vs_srt (b : Int) : ∀ t, Srt (vs b t)
  | 0 => List.Pairwise.nil
  | t + 1 => by
    rw [vs_succ]
    refine List.pairwise_append.2 ⟨vs_srt b t, srt_single _, fun p hp q hq => ?_⟩
    rw [List.mem_singleton.1 hq]
    have := vs_mem hp
    show p.1 < b + (t : Int)
    omega
theorem vs_right {t : Nat} (b : Int) (ht : t ≤ 64) (hb : 0 ≤ b ∧ b ≤ 100) : Lev.right ⟨0, vs b t⟩ = true := by
  rw [right_iff]
  refine ⟨⟨Int.le_refl _, by show (0 : Int) ≤ 1000; decide⟩, by rw [vs_len]; exact ht, fun p hp => ?_⟩
  have := vs_mem hp
  omega
theorem zn_0 (v : List LV) : zn 0 v = 0 := by unfold zn; split <;> rfl
theorem norm_0 {v : List LV} (h : Srt v) : Lev.norm ⟨0, v⟩ = ⟨0, v⟩ := by unfold Lev.norm; simp only [nfL_srt h, zn_0]
theorem wide_max {t u : Nat} (ht : t ≤ 64) (hu : u ≤ 64) : Lev.max2 ⟨0, vs 0 t⟩ ⟨0, vs 100 u⟩ = if t + u ≤ 64 then (⟨0, vs 0 t ++ vs 100 u⟩, 0) else (⟨0, []⟩, 13) := by
  have hs : Srt (vs 0 t ++ vs 100 u) := List.pairwise_append.2 ⟨vs_srt 0 t, vs_srt 100 u, fun p hp q hq => by
    have := vs_mem hp
    have := vs_mem hq
    omega⟩
  have hm : merge (vs 0 t) (vs 100 u) = vs 0 t ++ vs 100 u := (merge_eq (Nf.self (vs_srt 0 t)) (Nf.self (vs_srt 100 u))).trans (nfL_srt hs)
  unfold Lev.max2
  rw [if_pos (vs_right 0 ht (by decide)), if_pos (vs_right 100 hu (by decide)), norm_0 (vs_srt 0 t), norm_0 (vs_srt 100 u)]
  unfold Lev.join
  simp only [hm, Int.max_self]
  unfold Lev.told
  rw [norm_0 hs]
  by_cases h : t + u ≤ 64
  · rw [if_pos h, if_pos]
    rw [right_iff]
    refine ⟨⟨Int.le_refl _, by show (0 : Int) ≤ 1000; decide⟩, by show (vs 0 t ++ vs 100 u).length ≤ 64; rw [List.length_append, vs_len, vs_len]; exact h, fun p hp => ?_⟩
    rcases List.mem_append.1 hp with hp | hp <;> (have := vs_mem hp; omega)
  · rw [if_neg h, if_neg]
    rw [right_iff]
    rintro ⟨_, h2, _⟩
    have h2 : (vs 0 t ++ vs 100 u).length ≤ 64 := h2
    rw [List.length_append, vs_len, vs_len] at h2
    exact h h2

set_option maxHeartbeats 8000000 in
set_option maxRecDepth 8000 in
theorem lw_run (N M : Int) : ∃ n' h', callFn (LX (cF Go.Proofs.Try.prog)) 0 [] [.int .i64 N, .int .i64 M] ((cF Go.Proofs.Try.prog) 12) = .ok (.bool true) n' h' := by
  rw [f12_eq]; unfold c12; rw [callFn_eq (by rfl)]
  by_cases x1 : N < 0
  · simp (disch := first | assumption | omega | (simp (disch := first | assumption | omega) only [flatA0, flatA1, flatA2, flatA3, flatA4, Nat.reduceAdd, Nat.reduceLT, Nat.reduceLeDiff, Nat.reduceEqDiff, Nat.reduceMul, ↓reduceIte, gf_nil]; done) | fail) only [stepA0, stepA1, stepA2, stepA3, stepA4, stepA5, stepA6, stepA7, stepA8, stepA9, ↓reduceIte, Nat.reduceLT, Nat.reduceEqDiff, Nat.reduceAdd, Nat.reduceLeDiff, kAlive, x1, gf_nil]
    exact ⟨_, _, rfl⟩
  by_cases x2 : N > 64
  · simp (disch := first | assumption | omega | (simp (disch := first | assumption | omega) only [flatA0, flatA1, flatA2, flatA3, flatA4, Nat.reduceAdd, Nat.reduceLT, Nat.reduceLeDiff, Nat.reduceEqDiff, Nat.reduceMul, ↓reduceIte, gf_nil]; done) | fail) only [stepA0, stepA1, stepA2, stepA3, stepA4, stepA5, stepA6, stepA7, stepA8, stepA9, ↓reduceIte, Nat.reduceLT, Nat.reduceEqDiff, Nat.reduceAdd, Nat.reduceLeDiff, kAlive, x1, x2, gf_nil]
    exact ⟨_, _, rfl⟩
  by_cases x3 : M < 0
  · simp (disch := first | assumption | omega | (simp (disch := first | assumption | omega) only [flatA0, flatA1, flatA2, flatA3, flatA4, Nat.reduceAdd, Nat.reduceLT, Nat.reduceLeDiff, Nat.reduceEqDiff, Nat.reduceMul, ↓reduceIte, gf_nil]; done) | fail) only [stepA0, stepA1, stepA2, stepA3, stepA4, stepA5, stepA6, stepA7, stepA8, stepA9, ↓reduceIte, Nat.reduceLT, Nat.reduceEqDiff, Nat.reduceAdd, Nat.reduceLeDiff, kAlive, x1, x2, x3, gf_nil]
    exact ⟨_, _, rfl⟩
  by_cases x4 : M > 64
  · simp (disch := first | assumption | omega | (simp (disch := first | assumption | omega) only [flatA0, flatA1, flatA2, flatA3, flatA4, Nat.reduceAdd, Nat.reduceLT, Nat.reduceLeDiff, Nat.reduceEqDiff, Nat.reduceMul, ↓reduceIte, gf_nil]; done) | fail) only [stepA0, stepA1, stepA2, stepA3, stepA4, stepA5, stepA6, stepA7, stepA8, stepA9, ↓reduceIte, Nat.reduceLT, Nat.reduceEqDiff, Nat.reduceAdd, Nat.reduceLeDiff, kAlive, x1, x2, x3, x4, gf_nil]
    exact ⟨_, _, rfl⟩
  obtain ⟨t, rfl⟩ : ∃ t : Nat, N = (t : Int) := ⟨N.toNat, by omega⟩
  obtain ⟨u, rfl⟩ : ∃ u : Nat, M = (u : Int) := ⟨M.toNat, by omega⟩
  have ht : t ≤ 64 := by omega
  have hu : u ≤ 64 := by omega
  simp (disch := first | assumption | omega | (simp (disch := first | assumption | omega) only [flatA0, flatA1, flatA2, flatA3, flatA4, Nat.reduceAdd, Nat.reduceLT, Nat.reduceLeDiff, Nat.reduceEqDiff, Nat.reduceMul, ↓reduceIte, gf_nil]; done) | fail) only [stepA0, stepA1, stepA2, stepA3, stepA4, stepA5, stepA6, stepA7, stepA8, stepA9, ↓reduceIte, Nat.reduceLT, Nat.reduceEqDiff, Nat.reduceAdd, Nat.reduceLeDiff, kAlive, x1, x2, x3, x4, gf_nil]
  generalize hr : LX (cF Go.Proofs.Try.prog) (.loop l12_0) _ _ _ = r
  have loop1 : ∀ {qa qb n0 : Nat} {e : Tr} {h' : Hps} {r : Re}, LX (cF Go.Proofs.Try.prog) (.loop l12_0) e n0 h' = r → Hp 0 [] n0 h' → qa ≠ qb → qa + 1 ≤ n0 → qb + 1 ≤ n0 → getO h' qa = (Ob.row 2 [.agg [.int .i64 0, .nils]]) → getO h' qb = (Ob.row 2 [.agg [.int .i64 0, .nils]]) → get (po 0) e = .int .i64 (t : Nat) → get (po 1) e = .int .i64 (u : Nat) → get (po 6) e = .ptr qa 0 0 → get (po 7) e = .ptr qb 0 0 → get (po 8) e = .int .i64 0 →
      ∃ x e n' h', r = .ok x e n' h' ∧ x = .exit 0 ∧ Hp 0 [] n' h' ∧ n0 ≤ n' ∧ getO h' qb = (Ob.row 2 [.agg [.int .i64 0, .nils]]) ∧ ∃ dd, getO h' qa = (Ob.row 2 [.agg [.int .i64 (0), dd]]) ∧ Bld 2 encV n0 (vs 0 t) h' dd ∧ get (po 0) e = .int .i64 (t : Nat) ∧ get (po 1) e = .int .i64 (u : Nat) ∧ get (po 6) e = .ptr qa 0 0 ∧ get (po 7) e = .ptr qb 0 0 := by
    intro qa qb n0 e h' r hr H hab p1 p2 ba bb g0 g1 g6 g7 g8
    refine loop_up hr t
      (fun i e n' h' => Hp 0 [] n' h' ∧ n0 ≤ n' ∧ getO h' qb = (Ob.row 2 [.agg [.int .i64 0, .nils]]) ∧ ∃ dd, getO h' qa = (Ob.row 2 [.agg [.int .i64 (0), dd]]) ∧ Bld 2 encV n0 (vs 0 i) h' dd ∧ get (po 0) e = .int .i64 (t : Nat) ∧ get (po 1) e = .int .i64 (u : Nat) ∧ get (po 6) e = .ptr qa 0 0 ∧ get (po 7) e = .ptr qb 0 0 ∧ get (po 8) e = .int .i64 (i : Nat))
      (fun x e n' h' => x = .exit 0 ∧ Hp 0 [] n' h' ∧ n0 ≤ n' ∧ getO h' qb = (Ob.row 2 [.agg [.int .i64 0, .nils]]) ∧ ∃ dd, getO h' qa = (Ob.row 2 [.agg [.int .i64 (0), dd]]) ∧ Bld 2 encV n0 (vs 0 t) h' dd ∧ get (po 0) e = .int .i64 (t : Nat) ∧ get (po 1) e = .int .i64 (u : Nat) ∧ get (po 6) e = .ptr qa 0 0 ∧ get (po 7) e = .ptr qb 0 0)
      ?_ ?_ ⟨H, Nat.le_refl _, bb, .nils, ba, .inl ⟨rfl, rfl⟩, g0, g1, g6, g7, g8⟩
    · rintro e n' h' ⟨H, q1, bb, dd, ba, B, g0, g1, g6, g7, g8⟩
      unfold l12_0
      simp (disch := first | assumption | omega | (simp (disch := first | assumption | omega) only [flatA0, flatA1, flatA2, flatA3, flatA4, Nat.reduceAdd, Nat.reduceLT, Nat.reduceLeDiff, Nat.reduceEqDiff, Nat.reduceMul, ↓reduceIte]; done) | fail) only [stepA0, stepA1, stepA2, stepA3, stepA4, stepA5, stepA6, stepA7, stepA8, stepA9, ↓reduceIte, Nat.reduceLT, Nat.reduceEqDiff, Nat.reduceAdd, Nat.reduceLeDiff, g0, g8]
      exact ⟨_, _, _, _, rfl, by simp, rfl, H.mono (by omega), by omega, bb, dd, ba, B, by simp (disch := first | assumption | omega | (simp (disch := first | assumption | omega) only [flatA0, flatA1, flatA2, flatA3, flatA4, Nat.reduceAdd, Nat.reduceLT, Nat.reduceLeDiff, Nat.reduceEqDiff, Nat.reduceMul, ↓reduceIte]; done) | fail) only [stepA0, stepA1, stepA2, stepA3, stepA4, stepA5, stepA6, stepA7, stepA8, stepA9, ↓reduceIte, Nat.reduceLT, Nat.reduceEqDiff, Nat.reduceAdd, Nat.reduceLeDiff, g0], by simp (disch := first | assumption | omega | (simp (disch := first | assumption | omega) only [flatA0, flatA1, flatA2, flatA3, flatA4, Nat.reduceAdd, Nat.reduceLT, Nat.reduceLeDiff, Nat.reduceEqDiff, Nat.reduceMul, ↓reduceIte]; done) | fail) only [stepA0, stepA1, stepA2, stepA3, stepA4, stepA5, stepA6, stepA7, stepA8, stepA9, ↓reduceIte, Nat.reduceLT, Nat.reduceEqDiff, Nat.reduceAdd, Nat.reduceLeDiff, g1], by simp (disch := first | assumption | omega | (simp (disch := first | assumption | omega) only [flatA0, flatA1, flatA2, flatA3, flatA4, Nat.reduceAdd, Nat.reduceLT, Nat.reduceLeDiff, Nat.reduceEqDiff, Nat.reduceMul, ↓reduceIte]; done) | fail) only [stepA0, stepA1, stepA2, stepA3, stepA4, stepA5, stepA6, stepA7, stepA8, stepA9, ↓reduceIte, Nat.reduceLT, Nat.reduceEqDiff, Nat.reduceAdd, Nat.reduceLeDiff, g6], by simp (disch := first | assumption | omega | (simp (disch := first | assumption | omega) only [flatA0, flatA1, flatA2, flatA3, flatA4, Nat.reduceAdd, Nat.reduceLT, Nat.reduceLeDiff, Nat.reduceEqDiff, Nat.reduceMul, ↓reduceIte]; done) | fail) only [stepA0, stepA1, stepA2, stepA3, stepA4, stepA5, stepA6, stepA7, stepA8, stepA9, ↓reduceIte, Nat.reduceLT, Nat.reduceEqDiff, Nat.reduceAdd, Nat.reduceLeDiff, g7]⟩
    · rintro i e n' h' hi ⟨H, q1, bb, dd, ba, B, g0, g1, g6, g7, g8⟩
      have e1 : (0 : Int) + (i : Int) = (i : Int) := by omega
      obtain ⟨D', H', A⟩ := app_bldx (b := 16) B H (by omega) (by omega) lowV [((i : Int), (0 : Int))] (by rw [vs_len]; simp; omega)
      have A1 := fun m hm => (A m hm).1
      have A2 := fun m hm => (A m hm).2.1
      have A3 := fun m hm => (A m hm).2.2.1
      have A4 := fun m hm => (A m hm).2.2.2.1
      simp only [encV, List.map_cons, List.map_nil] at A1
      have hd1 := B.okD
      have hd2 : ∀ m, n' ≤ m → one (D' m) = true := fun m hm => (A2 m hm).one
      have hg3 : ∀ m, n' ≤ m → getO (H' m) qa = (Ob.row 2 [.agg [.int .i64 (0), dd]]) := fun m hm => by rw [A4 m hm _ (by omega)]; exact ba
      unfold l12_0
      simp (disch := first | assumption | omega | (simp (disch := first | assumption | omega) only [flatA0, flatA1, flatA2, flatA3, flatA4, Nat.reduceAdd, Nat.reduceLT, Nat.reduceLeDiff, Nat.reduceEqDiff, Nat.reduceMul, ↓reduceIte, hd2]; done) | fail) only [stepA0, stepA1, stepA2, stepA3, stepA4, stepA5, stepA6, stepA7, stepA8, stepA9, ↓reduceIte, Nat.reduceLT, Nat.reduceEqDiff, Nat.reduceAdd, Nat.reduceLeDiff, g0, g6, g8, ba, hd1, hg3, A1, hd2]
      refine ⟨_, _, _, _, rfl, .inl ⟨rfl, ((A3 _ (by omega)).set (r := qa) (by omega) (fun k hk => (A2 _ (by omega)).box2 ((A3 _ (by omega)).good k hk))).mono (by omega), by omega, getO_set2 (hg3 _ (by omega)) ((A4 _ (by omega) _ (by omega)).trans bb) (by omega), _, getO_set1 (hg3 _ (by omega)), ?_, by simp (disch := first | assumption | omega | (simp (disch := first | assumption | omega) only [flatA0, flatA1, flatA2, flatA3, flatA4, Nat.reduceAdd, Nat.reduceLT, Nat.reduceLeDiff, Nat.reduceEqDiff, Nat.reduceMul, ↓reduceIte]; done) | fail) only [stepA0, stepA1, stepA2, stepA3, stepA4, stepA5, stepA6, stepA7, stepA8, stepA9, ↓reduceIte, Nat.reduceLT, Nat.reduceEqDiff, Nat.reduceAdd, Nat.reduceLeDiff, g0], by simp (disch := first | assumption | omega | (simp (disch := first | assumption | omega) only [flatA0, flatA1, flatA2, flatA3, flatA4, Nat.reduceAdd, Nat.reduceLT, Nat.reduceLeDiff, Nat.reduceEqDiff, Nat.reduceMul, ↓reduceIte]; done) | fail) only [stepA0, stepA1, stepA2, stepA3, stepA4, stepA5, stepA6, stepA7, stepA8, stepA9, ↓reduceIte, Nat.reduceLT, Nat.reduceEqDiff, Nat.reduceAdd, Nat.reduceLeDiff, g1], by simp (disch := first | assumption | omega | (simp (disch := first | assumption | omega) only [flatA0, flatA1, flatA2, flatA3, flatA4, Nat.reduceAdd, Nat.reduceLT, Nat.reduceLeDiff, Nat.reduceEqDiff, Nat.reduceMul, ↓reduceIte]; done) | fail) only [stepA0, stepA1, stepA2, stepA3, stepA4, stepA5, stepA6, stepA7, stepA8, stepA9, ↓reduceIte, Nat.reduceLT, Nat.reduceEqDiff, Nat.reduceAdd, Nat.reduceLeDiff, g6], by simp (disch := first | assumption | omega | (simp (disch := first | assumption | omega) only [flatA0, flatA1, flatA2, flatA3, flatA4, Nat.reduceAdd, Nat.reduceLT, Nat.reduceLeDiff, Nat.reduceEqDiff, Nat.reduceMul, ↓reduceIte]; done) | fail) only [stepA0, stepA1, stepA2, stepA3, stepA4, stepA5, stepA6, stepA7, stepA8, stepA9, ↓reduceIte, Nat.reduceLT, Nat.reduceEqDiff, Nat.reduceAdd, Nat.reduceLeDiff, g7], by simp (disch := first | assumption | omega | (simp (disch := first | assumption | omega) only [flatA0, flatA1, flatA2, flatA3, flatA4, Nat.reduceAdd, Nat.reduceLT, Nat.reduceLeDiff, Nat.reduceEqDiff, Nat.reduceMul, ↓reduceIte]; done) | fail) only [stepA0, stepA1, stepA2, stepA3, stepA4, stepA5, stepA6, stepA7, stepA8, stepA9, ↓reduceIte, Nat.reduceLT, Nat.reduceEqDiff, Nat.reduceAdd, Nat.reduceLeDiff]⟩⟩
      rw [vs_succ, e1]
      exact (A2 _ (by omega)).set (hg3 _ (by omega)) (by omega)
  have loop2 : ∀ {qa qb n0 : Nat} {da : D} {e : Tr} {h' : Hps} {r : Re}, LX (cF Go.Proofs.Try.prog) (.loop l12_1) e n0 h' = r → Hp 0 [] n0 h' → qa ≠ qb → qa + 1 ≤ n0 → qb + 1 ≤ n0 → getO h' qb = (Ob.row 2 [.agg [.int .i64 0, .nils]]) → getO h' qa = (Ob.row 2 [.agg [.int .i64 (0), da]]) → Bld 2 encV (qb + 1) (vs 0 t) h' da → get (po 0) e = .int .i64 (t : Nat) → get (po 1) e = .int .i64 (u : Nat) → get (po 6) e = .ptr qa 0 0 → get (po 7) e = .ptr qb 0 0 → get (po 9) e = .int .i64 0 →
      ∃ x e n' h', r = .ok x e n' h' ∧ x = .exit 2 ∧ Hp 0 [] n' h' ∧ n0 ≤ n' ∧ getO h' qa = (Ob.row 2 [.agg [.int .i64 (0), da]]) ∧ Bld 2 encV (qb + 1) (vs 0 t) h' da ∧ ∃ dd, getO h' qb = (Ob.row 2 [.agg [.int .i64 (0), dd]]) ∧ Bld 2 encV n0 (vs 100 u) h' dd ∧ get (po 0) e = .int .i64 (t : Nat) ∧ get (po 1) e = .int .i64 (u : Nat) ∧ get (po 6) e = .ptr qa 0 0 ∧ get (po 7) e = .ptr qb 0 0 := by
    intro qa qb n0 da e h' r hr H hab p1 p2 bb ba Ba g0 g1 g6 g7 g9
    have G0 := H.good n0 (Nat.le_refl _)
    refine loop_up hr u
      (fun i e n' h1 => Hp 0 [] n' h1 ∧ n0 ≤ n' ∧ (∀ q, q < n0 → q ≠ qb → getO h1 q = getO h' q) ∧ ∃ dd, getO h1 qb = (Ob.row 2 [.agg [.int .i64 (0), dd]]) ∧ Bld 2 encV n0 (vs 100 i) h1 dd ∧ get (po 0) e = .int .i64 (t : Nat) ∧ get (po 1) e = .int .i64 (u : Nat) ∧ get (po 6) e = .ptr qa 0 0 ∧ get (po 7) e = .ptr qb 0 0 ∧ get (po 9) e = .int .i64 (i : Nat))
      (fun x e n' h1 => x = .exit 2 ∧ Hp 0 [] n' h1 ∧ n0 ≤ n' ∧ getO h1 qa = (Ob.row 2 [.agg [.int .i64 (0), da]]) ∧ Bld 2 encV (qb + 1) (vs 0 t) h1 da ∧ ∃ dd, getO h1 qb = (Ob.row 2 [.agg [.int .i64 (0), dd]]) ∧ Bld 2 encV n0 (vs 100 u) h1 dd ∧ get (po 0) e = .int .i64 (t : Nat) ∧ get (po 1) e = .int .i64 (u : Nat) ∧ get (po 6) e = .ptr qa 0 0 ∧ get (po 7) e = .ptr qb 0 0)
      ?_ ?_ ⟨H, Nat.le_refl _, fun _ _ _ => rfl, .nils, bb, .inl ⟨rfl, rfl⟩, g0, g1, g6, g7, g9⟩
    · rintro e n' h1 ⟨H, q1, hk, dd, bb, B, g0, g1, g6, g7, g9⟩
      unfold l12_1
      simp (disch := first | assumption | omega | (simp (disch := first | assumption | omega) only [flatA0, flatA1, flatA2, flatA3, flatA4, Nat.reduceAdd, Nat.reduceLT, Nat.reduceLeDiff, Nat.reduceEqDiff, Nat.reduceMul, ↓reduceIte]; done) | fail) only [stepA0, stepA1, stepA2, stepA3, stepA4, stepA5, stepA6, stepA7, stepA8, stepA9, ↓reduceIte, Nat.reduceLT, Nat.reduceEqDiff, Nat.reduceAdd, Nat.reduceLeDiff, g1, g9]
      refine ⟨_, _, _, _, rfl, by simp, rfl, H.mono (by omega), by omega, (hk qa (by omega) hab).trans ba, ?_, dd, bb, B, by simp (disch := first | assumption | omega | (simp (disch := first | assumption | omega) only [flatA0, flatA1, flatA2, flatA3, flatA4, Nat.reduceAdd, Nat.reduceLT, Nat.reduceLeDiff, Nat.reduceEqDiff, Nat.reduceMul, ↓reduceIte]; done) | fail) only [stepA0, stepA1, stepA2, stepA3, stepA4, stepA5, stepA6, stepA7, stepA8, stepA9, ↓reduceIte, Nat.reduceLT, Nat.reduceEqDiff, Nat.reduceAdd, Nat.reduceLeDiff, g0], by simp (disch := first | assumption | omega | (simp (disch := first | assumption | omega) only [flatA0, flatA1, flatA2, flatA3, flatA4, Nat.reduceAdd, Nat.reduceLT, Nat.reduceLeDiff, Nat.reduceEqDiff, Nat.reduceMul, ↓reduceIte]; done) | fail) only [stepA0, stepA1, stepA2, stepA3, stepA4, stepA5, stepA6, stepA7, stepA8, stepA9, ↓reduceIte, Nat.reduceLT, Nat.reduceEqDiff, Nat.reduceAdd, Nat.reduceLeDiff, g1], by simp (disch := first | assumption | omega | (simp (disch := first | assumption | omega) only [flatA0, flatA1, flatA2, flatA3, flatA4, Nat.reduceAdd, Nat.reduceLT, Nat.reduceLeDiff, Nat.reduceEqDiff, Nat.reduceMul, ↓reduceIte]; done) | fail) only [stepA0, stepA1, stepA2, stepA3, stepA4, stepA5, stepA6, stepA7, stepA8, stepA9, ↓reduceIte, Nat.reduceLT, Nat.reduceEqDiff, Nat.reduceAdd, Nat.reduceLeDiff, g6], by simp (disch := first | assumption | omega | (simp (disch := first | assumption | omega) only [flatA0, flatA1, flatA2, flatA3, flatA4, Nat.reduceAdd, Nat.reduceLT, Nat.reduceLeDiff, Nat.reduceEqDiff, Nat.reduceMul, ↓reduceIte]; done) | fail) only [stepA0, stepA1, stepA2, stepA3, stepA4, stepA5, stepA6, stepA7, stepA8, stepA9, ↓reduceIte, Nat.reduceLT, Nat.reduceEqDiff, Nat.reduceAdd, Nat.reduceLeDiff, g7]⟩
      rcases Ba with hB | ⟨r, r1, r2, r3, r4⟩
      · exact .inl hB
      · exact .inr ⟨r, r1, r2, r3, by rw [hk r (getO_low G0 (show getO h' r ≠ .none by rw [r4]; exact fun h => by cases h)) (by omega)]; exact r4⟩
    · rintro i e n' h1 hi ⟨H, q1, hk, dd, bb, B, g0, g1, g6, g7, g9⟩
      obtain ⟨D', H', A⟩ := app_bldx (b := 16) B H (by omega) (by omega) lowV [((100 : Int) + (i : Int), (0 : Int))] (by rw [vs_len]; simp; omega)
      have A1 := fun m hm => (A m hm).1
      have A2 := fun m hm => (A m hm).2.1
      have A3 := fun m hm => (A m hm).2.2.1
      have A4 := fun m hm => (A m hm).2.2.2.1
      simp only [encV, List.map_cons, List.map_nil] at A1
      have hd1 := B.okD
      have hd2 : ∀ m, n' ≤ m → one (D' m) = true := fun m hm => (A2 m hm).one
      have hg3 : ∀ m, n' ≤ m → getO (H' m) qb = (Ob.row 2 [.agg [.int .i64 (0), dd]]) := fun m hm => by rw [A4 m hm _ (by omega)]; exact bb
      unfold l12_1
      simp (disch := first | assumption | omega | (simp (disch := first | assumption | omega) only [flatA0, flatA1, flatA2, flatA3, flatA4, Nat.reduceAdd, Nat.reduceLT, Nat.reduceLeDiff, Nat.reduceEqDiff, Nat.reduceMul, ↓reduceIte, hd2]; done) | fail) only [stepA0, stepA1, stepA2, stepA3, stepA4, stepA5, stepA6, stepA7, stepA8, stepA9, ↓reduceIte, Nat.reduceLT, Nat.reduceEqDiff, Nat.reduceAdd, Nat.reduceLeDiff, g1, g7, g9, bb, hd1, hg3, A1, hd2]
      refine ⟨_, _, _, _, rfl, .inl ⟨rfl, ((A3 _ (by omega)).set (r := qb) (by omega) (fun k hk => (A2 _ (by omega)).box2 ((A3 _ (by omega)).good k hk))).mono (by omega), by omega, fun q hq hqb => ?_, _, getO_set1 (hg3 _ (by omega)), ?_, by simp (disch := first | assumption | omega | (simp (disch := first | assumption | omega) only [flatA0, flatA1, flatA2, flatA3, flatA4, Nat.reduceAdd, Nat.reduceLT, Nat.reduceLeDiff, Nat.reduceEqDiff, Nat.reduceMul, ↓reduceIte]; done) | fail) only [stepA0, stepA1, stepA2, stepA3, stepA4, stepA5, stepA6, stepA7, stepA8, stepA9, ↓reduceIte, Nat.reduceLT, Nat.reduceEqDiff, Nat.reduceAdd, Nat.reduceLeDiff, g0], by simp (disch := first | assumption | omega | (simp (disch := first | assumption | omega) only [flatA0, flatA1, flatA2, flatA3, flatA4, Nat.reduceAdd, Nat.reduceLT, Nat.reduceLeDiff, Nat.reduceEqDiff, Nat.reduceMul, ↓reduceIte]; done) | fail) only [stepA0, stepA1, stepA2, stepA3, stepA4, stepA5, stepA6, stepA7, stepA8, stepA9, ↓reduceIte, Nat.reduceLT, Nat.reduceEqDiff, Nat.reduceAdd, Nat.reduceLeDiff, g1], by simp (disch := first | assumption | omega | (simp (disch := first | assumption | omega) only [flatA0, flatA1, flatA2, flatA3, flatA4, Nat.reduceAdd, Nat.reduceLT, Nat.reduceLeDiff, Nat.reduceEqDiff, Nat.reduceMul, ↓reduceIte]; done) | fail) only [stepA0, stepA1, stepA2, stepA3, stepA4, stepA5, stepA6, stepA7, stepA8, stepA9, ↓reduceIte, Nat.reduceLT, Nat.reduceEqDiff, Nat.reduceAdd, Nat.reduceLeDiff, g6], by simp (disch := first | assumption | omega | (simp (disch := first | assumption | omega) only [flatA0, flatA1, flatA2, flatA3, flatA4, Nat.reduceAdd, Nat.reduceLT, Nat.reduceLeDiff, Nat.reduceEqDiff, Nat.reduceMul, ↓reduceIte]; done) | fail) only [stepA0, stepA1, stepA2, stepA3, stepA4, stepA5, stepA6, stepA7, stepA8, stepA9, ↓reduceIte, Nat.reduceLT, Nat.reduceEqDiff, Nat.reduceAdd, Nat.reduceLeDiff, g7], by simp (disch := first | assumption | omega | (simp (disch := first | assumption | omega) only [flatA0, flatA1, flatA2, flatA3, flatA4, Nat.reduceAdd, Nat.reduceLT, Nat.reduceLeDiff, Nat.reduceEqDiff, Nat.reduceMul, ↓reduceIte]; done) | fail) only [stepA0, stepA1, stepA2, stepA3, stepA4, stepA5, stepA6, stepA7, stepA8, stepA9, ↓reduceIte, Nat.reduceLT, Nat.reduceEqDiff, Nat.reduceAdd, Nat.reduceLeDiff]⟩⟩
      · exact (getO_set2 (hg3 _ (by omega)) (A4 _ (by omega) _ hq) hqb).trans (hk q hq hqb)
      rw [vs_succ]
      exact (A2 _ (by omega)).set (hg3 _ (by omega)) (by omega)
  obtain ⟨x, e2, n2, h2, rfl, rfl, H2, p2, bb, da, ba, Ba, g0, g1, g6, g7⟩ := loop1 hr (qa := 22) (qb := 23) ((((Hp.start (fun _ _ => good_nil)).box (r := 22) (m := 23) (by omega) (by omega) rfl).box (r := 23) (m := 24) (by omega) (by omega) rfl).mono (by omega)) (by omega) (by omega) (by omega) (by simp (disch := first | assumption | omega | (simp (disch := first | assumption | omega) only [flatA0, flatA1, flatA2, flatA3, flatA4, Nat.reduceAdd, Nat.reduceLT, Nat.reduceLeDiff, Nat.reduceEqDiff, Nat.reduceMul, ↓reduceIte]; done) | fail) only [stepA0, stepA1, stepA2, stepA3, stepA4, stepA5, stepA6, stepA7, stepA8, stepA9, ↓reduceIte, Nat.reduceLT, Nat.reduceEqDiff, Nat.reduceAdd, Nat.reduceLeDiff]) (by simp (disch := first | assumption | omega | (simp (disch := first | assumption | omega) only [flatA0, flatA1, flatA2, flatA3, flatA4, Nat.reduceAdd, Nat.reduceLT, Nat.reduceLeDiff, Nat.reduceEqDiff, Nat.reduceMul, ↓reduceIte]; done) | fail) only [stepA0, stepA1, stepA2, stepA3, stepA4, stepA5, stepA6, stepA7, stepA8, stepA9, ↓reduceIte, Nat.reduceLT, Nat.reduceEqDiff, Nat.reduceAdd, Nat.reduceLeDiff]) (by simp (disch := first | assumption | omega | (simp (disch := first | assumption | omega) only [flatA0, flatA1, flatA2, flatA3, flatA4, Nat.reduceAdd, Nat.reduceLT, Nat.reduceLeDiff, Nat.reduceEqDiff, Nat.reduceMul, ↓reduceIte]; done) | fail) only [stepA0, stepA1, stepA2, stepA3, stepA4, stepA5, stepA6, stepA7, stepA8, stepA9, ↓reduceIte, Nat.reduceLT, Nat.reduceEqDiff, Nat.reduceAdd, Nat.reduceLeDiff]) (by simp (disch := first | assumption | omega | (simp (disch := first | assumption | omega) only [flatA0, flatA1, flatA2, flatA3, flatA4, Nat.reduceAdd, Nat.reduceLT, Nat.reduceLeDiff, Nat.reduceEqDiff, Nat.reduceMul, ↓reduceIte]; done) | fail) only [stepA0, stepA1, stepA2, stepA3, stepA4, stepA5, stepA6, stepA7, stepA8, stepA9, ↓reduceIte, Nat.reduceLT, Nat.reduceEqDiff, Nat.reduceAdd, Nat.reduceLeDiff]) (by simp (disch := first | assumption | omega | (simp (disch := first | assumption | omega) only [flatA0, flatA1, flatA2, flatA3, flatA4, Nat.reduceAdd, Nat.reduceLT, Nat.reduceLeDiff, Nat.reduceEqDiff, Nat.reduceMul, ↓reduceIte]; done) | fail) only [stepA0, stepA1, stepA2, stepA3, stepA4, stepA5, stepA6, stepA7, stepA8, stepA9, ↓reduceIte, Nat.reduceLT, Nat.reduceEqDiff, Nat.reduceAdd, Nat.reduceLeDiff]) (by simp (disch := first | assumption | omega | (simp (disch := first | assumption | omega) only [flatA0, flatA1, flatA2, flatA3, flatA4, Nat.reduceAdd, Nat.reduceLT, Nat.reduceLeDiff, Nat.reduceEqDiff, Nat.reduceMul, ↓reduceIte]; done) | fail) only [stepA0, stepA1, stepA2, stepA3, stepA4, stepA5, stepA6, stepA7, stepA8, stepA9, ↓reduceIte, Nat.reduceLT, Nat.reduceEqDiff, Nat.reduceAdd, Nat.reduceLeDiff]) (by simp (disch := first | assumption | omega | (simp (disch := first | assumption | omega) only [flatA0, flatA1, flatA2, flatA3, flatA4, Nat.reduceAdd, Nat.reduceLT, Nat.reduceLeDiff, Nat.reduceEqDiff, Nat.reduceMul, ↓reduceIte]; done) | fail) only [stepA0, stepA1, stepA2, stepA3, stepA4, stepA5, stepA6, stepA7, stepA8, stepA9, ↓reduceIte, Nat.reduceLT, Nat.reduceEqDiff, Nat.reduceAdd, Nat.reduceLeDiff])
  simp (disch := first | assumption | omega | (simp (disch := first | assumption | omega) only [flatA0, flatA1, flatA2, flatA3, flatA4, Nat.reduceAdd, Nat.reduceLT, Nat.reduceLeDiff, Nat.reduceEqDiff, Nat.reduceMul, ↓reduceIte]; done) | fail) only [stepA0, stepA1, stepA2, stepA3, stepA4, stepA5, stepA6, stepA7, stepA8, stepA9, ↓reduceIte, Nat.reduceLT, Nat.reduceEqDiff, Nat.reduceAdd, Nat.reduceLeDiff, g0, g1, g6, g7]
  generalize hr : LX (cF Go.Proofs.Try.prog) (.loop l12_1) _ _ _ = r
  obtain ⟨x, e3, n3, h3, rfl, rfl, H3, p3, ba, Ba, db, bb, Bb, g0, g1, g6, g7⟩ := loop2 hr (qa := 22) (qb := 23) (H2.mono (by omega)) (by omega) (by omega) (by omega) bb ba (Ba.wide (by omega)) (by simp (disch := first | assumption | omega | (simp (disch := first | assumption | omega) only [flatA0, flatA1, flatA2, flatA3, flatA4, Nat.reduceAdd, Nat.reduceLT, Nat.reduceLeDiff, Nat.reduceEqDiff, Nat.reduceMul, ↓reduceIte]; done) | fail) only [stepA0, stepA1, stepA2, stepA3, stepA4, stepA5, stepA6, stepA7, stepA8, stepA9, ↓reduceIte, Nat.reduceLT, Nat.reduceEqDiff, Nat.reduceAdd, Nat.reduceLeDiff, g0]) (by simp (disch := first | assumption | omega | (simp (disch := first | assumption | omega) only [flatA0, flatA1, flatA2, flatA3, flatA4, Nat.reduceAdd, Nat.reduceLT, Nat.reduceLeDiff, Nat.reduceEqDiff, Nat.reduceMul, ↓reduceIte]; done) | fail) only [stepA0, stepA1, stepA2, stepA3, stepA4, stepA5, stepA6, stepA7, stepA8, stepA9, ↓reduceIte, Nat.reduceLT, Nat.reduceEqDiff, Nat.reduceAdd, Nat.reduceLeDiff, g1]) (by simp (disch := first | assumption | omega | (simp (disch := first | assumption | omega) only [flatA0, flatA1, flatA2, flatA3, flatA4, Nat.reduceAdd, Nat.reduceLT, Nat.reduceLeDiff, Nat.reduceEqDiff, Nat.reduceMul, ↓reduceIte]; done) | fail) only [stepA0, stepA1, stepA2, stepA3, stepA4, stepA5, stepA6, stepA7, stepA8, stepA9, ↓reduceIte, Nat.reduceLT, Nat.reduceEqDiff, Nat.reduceAdd, Nat.reduceLeDiff, g6]) (by simp (disch := first | assumption | omega | (simp (disch := first | assumption | omega) only [flatA0, flatA1, flatA2, flatA3, flatA4, Nat.reduceAdd, Nat.reduceLT, Nat.reduceLeDiff, Nat.reduceEqDiff, Nat.reduceMul, ↓reduceIte]; done) | fail) only [stepA0, stepA1, stepA2, stepA3, stepA4, stepA5, stepA6, stepA7, stepA8, stepA9, ↓reduceIte, Nat.reduceLT, Nat.reduceEqDiff, Nat.reduceAdd, Nat.reduceLeDiff, g7]) (by simp (disch := first | assumption | omega | (simp (disch := first | assumption | omega) only [flatA0, flatA1, flatA2, flatA3, flatA4, Nat.reduceAdd, Nat.reduceLT, Nat.reduceLeDiff, Nat.reduceEqDiff, Nat.reduceMul, ↓reduceIte]; done) | fail) only [stepA0, stepA1, stepA2, stepA3, stepA4, stepA5, stepA6, stepA7, stepA8, stepA9, ↓reduceIte, Nat.reduceLT, Nat.reduceEqDiff, Nat.reduceAdd, Nat.reduceLeDiff])
  obtain ⟨ad, S⟩ := Ba.sv (H3.good n3 (Nat.le_refl _)) aggV
  obtain ⟨ad', S'⟩ := Bb.sv (H3.good n3 (Nat.le_refl _)) aggV
  have HS := Hp.start (H3.good' (Nat.le_refl _))
  have c1 : ∀ m, n3 ≤ m → callFn (LX (cF Go.Proofs.Try.prog)) m h3 [(D.agg [.int .i64 (0), da]), (D.agg [.int .i64 (0), db])] (cF Go.Proofs.Try.prog 42) = .ok (D.tup [.agg [.int .i64 (Lev.max2 ⟨0, vs 0 t⟩ ⟨0, vs 100 u⟩).1.n, slD 2 encV (Sl.app (Lev.max2 ⟨0, vs 0 t⟩ ⟨0, vs 100 u⟩).1.v)], .int .i64 (Lev.max2 ⟨0, vs 0 t⟩ ⟨0, vs 100 u⟩).2]) m h3 := fun m hm => lvMax m h3 (H3.good' hm) 0 0 da db _ _ ad ad' (S.mono HS hm) (S'.mono HS hm) (by rw [vs_len]; omega) (by rw [vs_len]; omega)
  have hod := Ba.okD
  have hod' := Bb.okD
  have hx := or_max (vs_right 0 ht (by decide)) (vs_right 100 hu (by decide))
  rw [wide_max ht hu] at c1 hx
  by_cases hw : t + u ≤ 64
  · rw [if_pos hw] at c1 hx
    obtain ⟨f1, f2, _⟩ := hx rfl
    obtain ⟨Rv, hRv⟩ : ∃ Rv, Rv = vs 0 t ++ vs 100 u := ⟨_, rfl⟩
    have hlen : Rv.length = t + u := by rw [hRv, List.length_append, vs_len, vs_len]
    rw [← hRv] at c1 f1 f2
    replace f1 : Lev.leq ⟨0, vs 0 t⟩ ⟨0, Rv⟩ = true := f1
    replace f2 : Lev.leq ⟨0, vs 100 u⟩ ⟨0, Rv⟩ = true := f2
    have HF : ∀ r, n3 ≤ r → Hp 0 [] (r + 1) ((r, (Ob.row 2 [.agg [.int .i64 (0), slD 2 encV (Sl.app Rv)]])) :: h3) := fun r h => H3.box (r := r) h (by omega) (flatL ⟨0, Sl.app Rv⟩)
    have y1 : ∀ r m a, n3 ≤ r → r + 1 ≤ m → callFn (LX (cF Go.Proofs.Try.prog)) m ((r, (Ob.row 2 [.agg [.int .i64 (0), slD 2 encV (Sl.app Rv)]])) :: h3) [.int .i64 a] (cF Go.Proofs.Try.prog 39) = .ok (.int .i64 a) m ((r, (Ob.row 2 [.agg [.int .i64 (0), slD 2 encV (Sl.app Rv)]])) :: h3) := fun r m a h1 h2 => lawNum m _ ((HF r h1).good' h2) a
    have y2 : ∀ r m, n3 ≤ r → r + 1 ≤ m → callFn (LX (cF Go.Proofs.Try.prog)) m ((r, (Ob.row 2 [.agg [.int .i64 (0), slD 2 encV (Sl.app Rv)]])) :: h3) [(D.agg [.int .i64 (0), da]), (D.agg [.int .i64 (0), slD 2 encV (Sl.app Rv)])] (cF Go.Proofs.Try.prog 45) = .ok (.bool true) m ((r, (Ob.row 2 [.agg [.int .i64 (0), slD 2 encV (Sl.app Rv)]])) :: h3) := fun r m h1 h2 => by
      rw [lvLeq m _ ((HF r h1).good' h2) 0 0 da _ _ Rv ad _ (S.mono (HS.box (r := r) (m := r + 1) h1 (by omega) (flatL ⟨0, Sl.app Rv⟩)) h2) (svA Rv) (by rw [vs_len]; omega) (by rw [hlen]; omega), f1]
    have y3 : ∀ r m, n3 ≤ r → r + 1 ≤ m → callFn (LX (cF Go.Proofs.Try.prog)) m ((r, (Ob.row 2 [.agg [.int .i64 (0), slD 2 encV (Sl.app Rv)]])) :: h3) [(D.agg [.int .i64 (0), db]), (D.agg [.int .i64 (0), slD 2 encV (Sl.app Rv)])] (cF Go.Proofs.Try.prog 45) = .ok (.bool true) m ((r, (Ob.row 2 [.agg [.int .i64 (0), slD 2 encV (Sl.app Rv)]])) :: h3) := fun r m h1 h2 => by
      rw [lvLeq m _ ((HF r h1).good' h2) 0 0 db _ _ Rv ad' _ (S'.mono (HS.box (r := r) (m := r + 1) h1 (by omega) (flatL ⟨0, Sl.app Rv⟩)) h2) (svA Rv) (by rw [vs_len]; omega) (by rw [hlen]; omega), f2]
    have hl2 : ((Rv.length : Nat) : Int) = (t : Int) + (u : Int) := by omega
    have hw2 : ¬ (t : Int) + (u : Int) > 64 := by omega
    simp (disch := first | assumption | omega | (simp (disch := first | assumption | omega) only [flatA0, flatA1, flatA2, flatA3, flatA4, Nat.reduceAdd, Nat.reduceLT, Nat.reduceLeDiff, Nat.reduceEqDiff, Nat.reduceMul, ↓reduceIte]; done) | fail) only [stepA0, stepA1, stepA2, stepA3, stepA4, stepA5, stepA6, stepA7, stepA8, stepA9, ↓reduceIte, Nat.reduceLT, Nat.reduceEqDiff, Nat.reduceAdd, Nat.reduceLeDiff, g0, g1, g6, g7, ba, bb, hod, hod', c1, y1, y2, y3, app_el, hl2, hw2]
    exact ⟨_, _, finish_flat (d := .bool true) rfl ((HF (n3 + 7) (by omega)).mono (by omega))⟩
  · rw [if_neg hw] at c1
    simp only [slD_nil] at c1
    have HF : ∀ r, n3 ≤ r → Hp 0 [] (r + 1) ((r, (Ob.row 2 [.agg [.int .i64 0, .nils]])) :: h3) := fun r h => H3.box (r := r) h (by omega) rfl
    have y1 : ∀ r m a, n3 ≤ r → r + 1 ≤ m → callFn (LX (cF Go.Proofs.Try.prog)) m ((r, (Ob.row 2 [.agg [.int .i64 0, .nils]])) :: h3) [.int .i64 a] (cF Go.Proofs.Try.prog 39) = .ok (.int .i64 a) m ((r, (Ob.row 2 [.agg [.int .i64 0, .nils]])) :: h3) := fun r m a h1 h2 => lawNum m _ ((HF r h1).good' h2) a
    have hw2 : (t : Int) + (u : Int) > 64 := by omega
    simp (disch := first | assumption | omega | (simp (disch := first | assumption | omega) only [flatA0, flatA1, flatA2, flatA3, flatA4, Nat.reduceAdd, Nat.reduceLT, Nat.reduceLeDiff, Nat.reduceEqDiff, Nat.reduceMul, ↓reduceIte]; done) | fail) only [stepA0, stepA1, stepA2, stepA3, stepA4, stepA5, stepA6, stepA7, stepA8, stepA9, ↓reduceIte, Nat.reduceLT, Nat.reduceEqDiff, Nat.reduceAdd, Nat.reduceLeDiff, g0, g1, g6, g7, ba, bb, hod, hod', c1, y1, hw2]
    exact ⟨_, _, finish_flat (d := .bool true) rfl ((HF (n3 + 7) (by omega)).mono (by omega))⟩

set_option maxRecDepth 100000 in
theorem lw_lifted (os : Os) (started : os.Started) (H : Type) (enc : TypeId × Value → H) :
    ReturnsInHanded {} Go.Proofs.Try.checked os 12 .any (Rows.levelWideSpec.pre6 enc Go.Proofs.Try.prog Go.Proofs.Try.f12 Rows.levelWideRow.domain false) (Rows.levelWideSpec.post enc Go.Proofs.Try.prog Go.Proofs.Try.f12 false true false false) := by
  refine law_lifted (C := Go.Proofs.Try.checked) (tb := 4) own started (by kernel_rfl) Go.Proofs.Try.func12
    (ChangeSpec.witness6 (enc := enc) (C := Go.Proofs.Try.checked) false ⟨#[], #[.int .i64 0, .int .i64 0], []⟩ 8 (by kernel_rfl) (by kernel_rfl) (by kernel_rfl) (by kernel_rfl))
    mixed laidOut rowed_maps full_slices (by kernel_rfl) rfl (by kernel_rfl) rfl ?_ ?_
  · intro ds hl
    match ds, hl with
    | [_, _], _ => rfl
  · intro ds l hA
    have hA : ArgsAre Go.Proofs.Try.prog [3, 3] ds l := hA
    obtain ⟨x, y, f1, f2, rfl, h1, h2⟩ := args_two hA
    obtain ⟨a, e1, _⟩ := int_arg (k := .i64) (by kernel_rfl) h1
    obtain ⟨b, e2, _⟩ := int_arg (k := .i64) (by kernel_rfl) h2
    rw [e1, e2]
    exact lw_run a b

theorem LevelWide_holds : Rows.LevelWideSaid :=
  OpenClaim.holds_of_wide 12 Go.Proofs.Try.f12 rfl rfl rfl rfl rfl rfl rfl ⟨rfl, rfl, rfl, rfl, rfl⟩ rfl rfl rfl rfl rfl (by kernel_rfl) Go.Proofs.Try.func12 (by kernel_rfl)
    (of_decide_eq_true (by kernel_rfl)) (by unfold Func.isWrapper; first | (rw [if_pos (by decide +kernel)]; kernel_rfl) | (rw [if_neg (by decide +kernel)]; exact ⟨rfl, rfl⟩))
    (fun os started H enc _ => lw_lifted os started H enc)
end Go.Proofs.Ytjagmfgjlfkmgaa
