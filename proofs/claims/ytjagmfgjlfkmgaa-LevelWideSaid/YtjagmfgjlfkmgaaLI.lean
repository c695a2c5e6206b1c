/- Whether two levels are one; LevelCompares. No condition. -/
import Derived.Test.YtjagmfgjlfkmgaaLH
set_option linter.unusedSimpArgs false
set_option linter.unusedVariables false
namespace Go.Proofs.Ytjagmfgjlfkmgaa
open Go Go.ChangeShapes Go.WideShapes Go.ChangeAt Go.RowKit

theorem eqV (p q : LV) : eqD (.struct [.int .i64, .int .i64]) (encV p) (encV q) = .ok (decide (p = q)) := by
  unfold encV
  rw [eqD_struct]
  by_cases h1 : p.1 = q.1
  · by_cases h2 : p.2 = q.2
    · rw [decide_eq_true (Prod.ext h1 h2 : p = q)]
      simp (disch := first | assumption | omega | (simp (disch := first | assumption | omega) only [flatA0, flatA1, flatA2, flatA3, flatA4, Nat.reduceAdd, Nat.reduceLT, Nat.reduceLeDiff, Nat.reduceEqDiff, Nat.reduceMul, ↓reduceIte]; done) | fail) only [stepA0, stepA1, stepA2, stepA3, stepA4, stepA5, stepA6, stepA7, stepA8, stepA9, ↓reduceIte, Nat.reduceLT, Nat.reduceEqDiff, Nat.reduceAdd, Nat.reduceLeDiff]
    · rw [decide_eq_false (fun e => h2 (by rw [e]) : ¬ p = q)]
      simp (disch := first | assumption | omega | (simp (disch := first | assumption | omega) only [flatA0, flatA1, flatA2, flatA3, flatA4, Nat.reduceAdd, Nat.reduceLT, Nat.reduceLeDiff, Nat.reduceEqDiff, Nat.reduceMul, ↓reduceIte]; done) | fail) only [stepA0, stepA1, stepA2, stepA3, stepA4, stepA5, stepA6, stepA7, stepA8, stepA9, ↓reduceIte, Nat.reduceLT, Nat.reduceEqDiff, Nat.reduceAdd, Nat.reduceLeDiff]
  · rw [decide_eq_false (fun e => h1 (by rw [e]) : ¬ p = q)]
    simp (disch := first | assumption | omega | (simp (disch := first | assumption | omega) only [flatA0, flatA1, flatA2, flatA3, flatA4, Nat.reduceAdd, Nat.reduceLT, Nat.reduceLeDiff, Nat.reduceEqDiff, Nat.reduceMul, ↓reduceIte]; done) | fail) only [stepA0, stepA1, stepA2, stepA3, stepA4, stepA5, stepA6, stepA7, stepA8, stepA9, ↓reduceIte, Nat.reduceLT, Nat.reduceEqDiff, Nat.reduceAdd, Nat.reduceLeDiff]

theorem slEqual (n : Nat) (h : Hps) (hg : ∀ k, n ≤ k → GoodAt k h) (s s' : Sl LV) (hs : s.el.length < 1000000000000) (hs' : s'.el.length < 1000000000000) :
    callFn (LX (cF Go.Proofs.Try.prog)) n h [slD 2 encV s, slD 2 encV s'] (cF Go.Proofs.Try.prog 79) = .ok (.bool (decide (s.el = s'.el))) n h := by
  have hgn := hg n (Nat.le_refl _)
  have H0 : Hp n h n h := Hp.start hg
  have A := svV (n := n) (h := h) s
  have A' := svV (n := n) (h := h) s'
  have s1 := A.len
  have s2 := A.idx
  have s3 := A.okD
  have t1 := A'.len
  have t2 := A'.idx
  have t3 := A'.okD
  rw [f79_eq]; unfold c79; rw [callFn_eq (by rfl)]
  by_cases h2 : s.el.length = s'.el.length
  · simp (disch := first | assumption | omega | (simp (disch := first | assumption | omega) only [flatA0, flatA1, flatA2, flatA3, flatA4, Nat.reduceAdd, Nat.reduceLT, Nat.reduceLeDiff, Nat.reduceEqDiff, Nat.reduceMul, ↓reduceIte]; done) | fail) only [stepA0, stepA1, stepA2, stepA3, stepA4, stepA5, stepA6, stepA7, stepA8, stepA9, ↓reduceIte, Nat.reduceLT, Nat.reduceEqDiff, Nat.reduceAdd, Nat.reduceLeDiff, s1, s3, t1, t3]
    generalize hr : LX (cF Go.Proofs.Try.prog) (.loop l79_0) _ _ _ = r
    obtain ⟨x, e2, n2, h2', rfl, H2, q⟩ := loop_up hr s.el.length
      (fun i e n' h' => Hp n h n' h' ∧ s.el.take i = s'.el.take i ∧ get (po 0) e = slD 2 encV s ∧ get (po 1) e = slD 2 encV s' ∧ get (po 12) e = .int .i64 (s.el.length : Nat) ∧ get (po 13) e = .int .i64 (i : Nat))
      (fun x e n' h' => Hp n h n' h' ∧ ((x = .exit 0 ∧ s.el = s'.el) ∨ (x = .ret ∧ s.el ≠ s'.el ∧ get (po 4) e = .bool false)))
      (by
        rintro e n' h' ⟨H, ht, g0, g1, g12, g13⟩
        unfold l79_0
        rw [List.take_length, h2, List.take_length] at ht
        simp (disch := first | assumption | omega | (simp (disch := first | assumption | omega) only [flatA0, flatA1, flatA2, flatA3, flatA4, Nat.reduceAdd, Nat.reduceLT, Nat.reduceLeDiff, Nat.reduceEqDiff, Nat.reduceMul, ↓reduceIte]; done) | fail) only [stepA0, stepA1, stepA2, stepA3, stepA4, stepA5, stepA6, stepA7, stepA8, stepA9, ↓reduceIte, Nat.reduceLT, Nat.reduceEqDiff, Nat.reduceAdd, Nat.reduceLeDiff, g12, g13]
        exact ⟨_, _, _, _, rfl, by simp, H.mono (by omega), .inl ⟨rfl, ht⟩⟩)
      (by
        rintro i e n' h' hi ⟨H, ht, g0, g1, g12, g13⟩
        have hi' : i < s'.el.length := by omega
        have s4 := A.at H
        have t4 := A'.at H
        unfold l79_0
        by_cases a1 : s.el[i] = s'.el[i]
        · have a2 : decide (s.el[i] = s'.el[i]) = true := decide_eq_true a1
          simp (disch := first | assumption | omega | (simp (disch := first | assumption | omega) only [flatA0, flatA1, flatA2, flatA3, flatA4, Nat.reduceAdd, Nat.reduceLT, Nat.reduceLeDiff, Nat.reduceEqDiff, Nat.reduceMul, ↓reduceIte]; done) | fail) only [stepA0, stepA1, stepA2, stepA3, stepA4, stepA5, stepA6, stepA7, stepA8, stepA9, ↓reduceIte, Nat.reduceLT, Nat.reduceEqDiff, Nat.reduceAdd, Nat.reduceLeDiff, g0, g1, g12, g13, s1, s2, s3, s4, t1, t2, t3, t4, eqV, a2]
          exact ⟨_, _, _, _, rfl, .inl ⟨rfl, H.mono (by omega), (take_inj hi hi').2 ⟨ht, a1⟩, by simp (disch := first | assumption | omega | (simp (disch := first | assumption | omega) only [flatA0, flatA1, flatA2, flatA3, flatA4, Nat.reduceAdd, Nat.reduceLT, Nat.reduceLeDiff, Nat.reduceEqDiff, Nat.reduceMul, ↓reduceIte]; done) | fail) only [stepA0, stepA1, stepA2, stepA3, stepA4, stepA5, stepA6, stepA7, stepA8, stepA9, ↓reduceIte, Nat.reduceLT, Nat.reduceEqDiff, Nat.reduceAdd, Nat.reduceLeDiff, g0], by simp (disch := first | assumption | omega | (simp (disch := first | assumption | omega) only [flatA0, flatA1, flatA2, flatA3, flatA4, Nat.reduceAdd, Nat.reduceLT, Nat.reduceLeDiff, Nat.reduceEqDiff, Nat.reduceMul, ↓reduceIte]; done) | fail) only [stepA0, stepA1, stepA2, stepA3, stepA4, stepA5, stepA6, stepA7, stepA8, stepA9, ↓reduceIte, Nat.reduceLT, Nat.reduceEqDiff, Nat.reduceAdd, Nat.reduceLeDiff, g1], by simp (disch := first | assumption | omega | (simp (disch := first | assumption | omega) only [flatA0, flatA1, flatA2, flatA3, flatA4, Nat.reduceAdd, Nat.reduceLT, Nat.reduceLeDiff, Nat.reduceEqDiff, Nat.reduceMul, ↓reduceIte]; done) | fail) only [stepA0, stepA1, stepA2, stepA3, stepA4, stepA5, stepA6, stepA7, stepA8, stepA9, ↓reduceIte, Nat.reduceLT, Nat.reduceEqDiff, Nat.reduceAdd, Nat.reduceLeDiff, g12], by simp (disch := first | assumption | omega | (simp (disch := first | assumption | omega) only [flatA0, flatA1, flatA2, flatA3, flatA4, Nat.reduceAdd, Nat.reduceLT, Nat.reduceLeDiff, Nat.reduceEqDiff, Nat.reduceMul, ↓reduceIte]; done) | fail) only [stepA0, stepA1, stepA2, stepA3, stepA4, stepA5, stepA6, stepA7, stepA8, stepA9, ↓reduceIte, Nat.reduceLT, Nat.reduceEqDiff, Nat.reduceAdd, Nat.reduceLeDiff]⟩⟩
        · have a2 : decide (s.el[i] = s'.el[i]) = false := decide_eq_false a1
          simp (disch := first | assumption | omega | (simp (disch := first | assumption | omega) only [flatA0, flatA1, flatA2, flatA3, flatA4, Nat.reduceAdd, Nat.reduceLT, Nat.reduceLeDiff, Nat.reduceEqDiff, Nat.reduceMul, ↓reduceIte]; done) | fail) only [stepA0, stepA1, stepA2, stepA3, stepA4, stepA5, stepA6, stepA7, stepA8, stepA9, ↓reduceIte, Nat.reduceLT, Nat.reduceEqDiff, Nat.reduceAdd, Nat.reduceLeDiff, g0, g1, g12, g13, s1, s2, s3, s4, t1, t2, t3, t4, eqV, a2]
          exact ⟨_, _, _, _, rfl, .inr ⟨by simp, H.mono (by omega), .inr ⟨rfl, take_ne hi hi' a1, by simp (disch := first | assumption | omega | (simp (disch := first | assumption | omega) only [flatA0, flatA1, flatA2, flatA3, flatA4, Nat.reduceAdd, Nat.reduceLT, Nat.reduceLeDiff, Nat.reduceEqDiff, Nat.reduceMul, ↓reduceIte]; done) | fail) only [stepA0, stepA1, stepA2, stepA3, stepA4, stepA5, stepA6, stepA7, stepA8, stepA9, ↓reduceIte, Nat.reduceLT, Nat.reduceEqDiff, Nat.reduceAdd, Nat.reduceLeDiff]⟩⟩⟩)
      ⟨H0.mono (by omega), by simp, by simp (disch := first | assumption | omega | (simp (disch := first | assumption | omega) only [flatA0, flatA1, flatA2, flatA3, flatA4, Nat.reduceAdd, Nat.reduceLT, Nat.reduceLeDiff, Nat.reduceEqDiff, Nat.reduceMul, ↓reduceIte]; done) | fail) only [stepA0, stepA1, stepA2, stepA3, stepA4, stepA5, stepA6, stepA7, stepA8, stepA9, ↓reduceIte, Nat.reduceLT, Nat.reduceEqDiff, Nat.reduceAdd, Nat.reduceLeDiff], by simp (disch := first | assumption | omega | (simp (disch := first | assumption | omega) only [flatA0, flatA1, flatA2, flatA3, flatA4, Nat.reduceAdd, Nat.reduceLT, Nat.reduceLeDiff, Nat.reduceEqDiff, Nat.reduceMul, ↓reduceIte]; done) | fail) only [stepA0, stepA1, stepA2, stepA3, stepA4, stepA5, stepA6, stepA7, stepA8, stepA9, ↓reduceIte, Nat.reduceLT, Nat.reduceEqDiff, Nat.reduceAdd, Nat.reduceLeDiff], by simp (disch := first | assumption | omega | (simp (disch := first | assumption | omega) only [flatA0, flatA1, flatA2, flatA3, flatA4, Nat.reduceAdd, Nat.reduceLT, Nat.reduceLeDiff, Nat.reduceEqDiff, Nat.reduceMul, ↓reduceIte]; done) | fail) only [stepA0, stepA1, stepA2, stepA3, stepA4, stepA5, stepA6, stepA7, stepA8, stepA9, ↓reduceIte, Nat.reduceLT, Nat.reduceEqDiff, Nat.reduceAdd, Nat.reduceLeDiff], by simp (disch := first | assumption | omega | (simp (disch := first | assumption | omega) only [flatA0, flatA1, flatA2, flatA3, flatA4, Nat.reduceAdd, Nat.reduceLT, Nat.reduceLeDiff, Nat.reduceEqDiff, Nat.reduceMul, ↓reduceIte]; done) | fail) only [stepA0, stepA1, stepA2, stepA3, stepA4, stepA5, stepA6, stepA7, stepA8, stepA9, ↓reduceIte, Nat.reduceLT, Nat.reduceEqDiff, Nat.reduceAdd, Nat.reduceLeDiff]⟩
    rcases q with ⟨rfl, q⟩ | ⟨rfl, q, q2⟩
    · rw [decide_eq_true q]
      simp (disch := first | assumption | omega | (simp (disch := first | assumption | omega) only [flatA0, flatA1, flatA2, flatA3, flatA4, Nat.reduceAdd, Nat.reduceLT, Nat.reduceLeDiff, Nat.reduceEqDiff, Nat.reduceMul, ↓reduceIte]; done) | fail) only [stepA0, stepA1, stepA2, stepA3, stepA4, stepA5, stepA6, stepA7, stepA8, stepA9, ↓reduceIte, Nat.reduceLT, Nat.reduceEqDiff, Nat.reduceAdd, Nat.reduceLeDiff, finish_flat (d := .bool true) rfl (H2.mono (show n2 ≤ n2 + 1 by omega))]
    · rw [decide_eq_false q]
      simp (disch := first | assumption | omega | (simp (disch := first | assumption | omega) only [flatA0, flatA1, flatA2, flatA3, flatA4, Nat.reduceAdd, Nat.reduceLT, Nat.reduceLeDiff, Nat.reduceEqDiff, Nat.reduceMul, ↓reduceIte]; done) | fail) only [stepA0, stepA1, stepA2, stepA3, stepA4, stepA5, stepA6, stepA7, stepA8, stepA9, ↓reduceIte, Nat.reduceLT, Nat.reduceEqDiff, Nat.reduceAdd, Nat.reduceLeDiff, q2, finish_flat (d := .bool false) rfl H2]
  · rw [decide_eq_false (fun e => h2 (by rw [e]))]
    simp (disch := first | assumption | omega | (simp (disch := first | assumption | omega) only [flatA0, flatA1, flatA2, flatA3, flatA4, Nat.reduceAdd, Nat.reduceLT, Nat.reduceLeDiff, Nat.reduceEqDiff, Nat.reduceMul, ↓reduceIte]; done) | fail) only [stepA0, stepA1, stepA2, stepA3, stepA4, stepA5, stepA6, stepA7, stepA8, stepA9, ↓reduceIte, Nat.reduceLT, Nat.reduceEqDiff, Nat.reduceAdd, Nat.reduceLeDiff, s1, s3, t1, t3]

set_option maxHeartbeats 4000000 in
theorem lvSame (n : Nat) (h : Hps) (hg : ∀ k, n ≤ k → GoodAt k h) (N N' : Int) (d d' : D) (l l' : List LV) (ad ad' : Nat → D) (S : Sv 2 encV n h d l ad) (S' : Sv 2 encV n h d' l' ad') (hs : l.length < 1000000000000) (hs' : l'.length < 1000000000000) :
    callFn (LX (cF Go.Proofs.Try.prog)) n h [(D.agg [.int .i64 (N), d]), (D.agg [.int .i64 (N'), d'])] (cF Go.Proofs.Try.prog 51) = .ok (.bool (Lev.same ⟨N, l⟩ ⟨N', l'⟩)) n h := by
  have hgn := hg n (Nat.le_refl _)
  have s3 := S.okD
  have s3' := S'.okD
  have H0 : Hp n h (n + 2) ((n + 1, (Ob.row 2 [.agg [.int .i64 (N'), d']])) :: (n, (Ob.row 2 [.agg [.int .i64 (N), d]])) :: h) := ((Hp.start hg).cons (r := n) (m := n + 1) (Nat.le_refl _) (by omega) (fun k hk => S.box2 (by omega))).cons (m := n + 2) (r := n + 1) (by omega) (by omega) (fun k hk => S'.box2 (by omega))
  have c0 : ∀ m, n + 2 ≤ m → callFn (LX (cF Go.Proofs.Try.prog)) m ((n + 1, (Ob.row 2 [.agg [.int .i64 (N'), d']])) :: (n, (Ob.row 2 [.agg [.int .i64 (N), d]])) :: h) [(D.agg [.int .i64 (N), d])] (cF Go.Proofs.Try.prog 36) = .ok (D.tup [.agg [.int .i64 (Lev.nrm ⟨N, l⟩).1.n, slD 2 encV (Sl.app (Lev.nrm ⟨N, l⟩).1.v)], .int .i64 (Lev.nrm ⟨N, l⟩).2]) m ((n + 1, (Ob.row 2 [.agg [.int .i64 (N'), d']])) :: (n, (Ob.row 2 [.agg [.int .i64 (N), d]])) :: h) := fun m hm => lvNorm m _ (H0.good' hm) N d l ad (S.mono H0 hm) hs
  have HA : ∀ R : Lev × Int, Hp n h (n + 2) ((n + 1, (Ob.row 2 [.agg [.int .i64 (N'), d']])) :: (n, (Ob.row 2 [.agg [.int .i64 (R.1.n), slD 2 encV (Sl.app R.1.v)]])) :: h) := fun R => ((Hp.start hg).box (r := n) (m := n + 1) (Nat.le_refl _) (by omega) (flatL ⟨R.1.n, Sl.app R.1.v⟩)).cons (m := n + 2) (r := n + 1) (by omega) (by omega) (fun k hk => S'.box2 (by omega))
  have c1 : ∀ (R : Lev × Int) m, n + 2 ≤ m → callFn (LX (cF Go.Proofs.Try.prog)) m ((n + 1, (Ob.row 2 [.agg [.int .i64 (N'), d']])) :: (n, (Ob.row 2 [.agg [.int .i64 (R.1.n), slD 2 encV (Sl.app R.1.v)]])) :: h) [(D.agg [.int .i64 (N'), d'])] (cF Go.Proofs.Try.prog 36) = .ok (D.tup [.agg [.int .i64 (Lev.nrm ⟨N', l'⟩).1.n, slD 2 encV (Sl.app (Lev.nrm ⟨N', l'⟩).1.v)], .int .i64 (Lev.nrm ⟨N', l'⟩).2]) m ((n + 1, (Ob.row 2 [.agg [.int .i64 (N'), d']])) :: (n, (Ob.row 2 [.agg [.int .i64 (R.1.n), slD 2 encV (Sl.app R.1.v)]])) :: h) := fun R m hm => lvNorm m _ ((HA R).good' hm) N' d' l' ad' (S'.mono (HA R) hm) hs'
  unfold Lev.same
  by_cases hb : Lev.right ⟨N, l⟩ = true
  · rw [hb, Bool.true_and]
    rw [nrm_right hb] at c0
    have hr := right_iff.1 (right_norm hb)
    generalize hM : Lev.norm ⟨N, l⟩ = M at c0 hr ⊢
    obtain ⟨Mn, Mv⟩ := M
    obtain ⟨hMn, hlen, hMv⟩ := hr
    replace hlen : Mv.length ≤ 64 := hlen
    replace c1 := c1 (⟨Mn, Mv⟩, 0)
    by_cases hb' : Lev.right ⟨N', l'⟩ = true
    · rw [hb', Bool.true_and]
      rw [nrm_right hb'] at c1
      have hr' := right_iff.1 (right_norm hb')
      generalize hM' : Lev.norm ⟨N', l'⟩ = M' at c1 hr' ⊢
      obtain ⟨Mn', Mv'⟩ := M'
      obtain ⟨hMn', hlen', hMv'⟩ := hr'
      replace hlen' : Mv'.length ≤ 64 := hlen'
      simp only at c0 c1
      have H2 : Hp n h (n + 2) ((n + 1, (Ob.row 2 [.agg [.int .i64 (Mn'), slD 2 encV (Sl.app Mv')]])) :: (n, (Ob.row 2 [.agg [.int .i64 (Mn), slD 2 encV (Sl.app Mv)]])) :: h) := ((Hp.start hg).box (r := n) (m := n + 1) (Nat.le_refl _) (by omega) (flatL ⟨Mn, Sl.app Mv⟩)).box (m := n + 2) (r := n + 1) (by omega) (by omega) (flatL ⟨Mn', Sl.app Mv'⟩)
      have c2 : ∀ m, n + 2 ≤ m → callFn (LX (cF Go.Proofs.Try.prog)) m ((n + 1, (Ob.row 2 [.agg [.int .i64 (Mn'), slD 2 encV (Sl.app Mv')]])) :: (n, (Ob.row 2 [.agg [.int .i64 (Mn), slD 2 encV (Sl.app Mv)]])) :: h) [slD 2 encV (Sl.app Mv), slD 2 encV (Sl.app Mv')] (cF Go.Proofs.Try.prog 79) = .ok (.bool (decide (Mv = Mv'))) m ((n + 1, (Ob.row 2 [.agg [.int .i64 (Mn'), slD 2 encV (Sl.app Mv')]])) :: (n, (Ob.row 2 [.agg [.int .i64 (Mn), slD 2 encV (Sl.app Mv)]])) :: h) := fun m hm => slEqual m _ (H2.good' hm) (Sl.app Mv) (Sl.app Mv') (by show Mv.length < _; omega) (by show Mv'.length < _; omega)
      show _ = Rd.ok (.bool (decide (Mn = Mn' ∧ Mv = Mv'))) n h
      rw [f51_eq]; unfold c51; rw [callFn_eq (by rfl)]
      by_cases e1 : Mn = Mn'
      · rw [show decide (Mn = Mn' ∧ Mv = Mv') = decide (Mv = Mv') by simp [e1]]
        simp (disch := first | assumption | omega | (simp (disch := first | assumption | omega) only [flatA0, flatA1, flatA2, flatA3, flatA4, Nat.reduceAdd, Nat.reduceLT, Nat.reduceLeDiff, Nat.reduceEqDiff, Nat.reduceMul, ↓reduceIte]; done) | fail) only [stepA0, stepA1, stepA2, stepA3, stepA4, stepA5, stepA6, stepA7, stepA8, stepA9, ↓reduceIte, Nat.reduceLT, Nat.reduceEqDiff, Nat.reduceAdd, Nat.reduceLeDiff, c0, c1, c2, s3, s3']
      · rw [show decide (Mn = Mn' ∧ Mv = Mv') = false by simp [e1]]
        simp (disch := first | assumption | omega | (simp (disch := first | assumption | omega) only [flatA0, flatA1, flatA2, flatA3, flatA4, Nat.reduceAdd, Nat.reduceLT, Nat.reduceLeDiff, Nat.reduceEqDiff, Nat.reduceMul, ↓reduceIte]; done) | fail) only [stepA0, stepA1, stepA2, stepA3, stepA4, stepA5, stepA6, stepA7, stepA8, stepA9, ↓reduceIte, Nat.reduceLT, Nat.reduceEqDiff, Nat.reduceAdd, Nat.reduceLeDiff, c0, c1, c2, s3, s3']
    · rw [Bool.not_eq_true] at hb'
      rw [hb', Bool.false_and]
      rw [nrm_wrong (by rw [hb']; decide)] at c1
      simp only at c0 c1
      rw [f51_eq]; unfold c51; rw [callFn_eq (by rfl)]
      simp (disch := first | assumption | omega | (simp (disch := first | assumption | omega) only [flatA0, flatA1, flatA2, flatA3, flatA4, Nat.reduceAdd, Nat.reduceLT, Nat.reduceLeDiff, Nat.reduceEqDiff, Nat.reduceMul, ↓reduceIte]; done) | fail) only [stepA0, stepA1, stepA2, stepA3, stepA4, stepA5, stepA6, stepA7, stepA8, stepA9, ↓reduceIte, Nat.reduceLT, Nat.reduceEqDiff, Nat.reduceAdd, Nat.reduceLeDiff, c0, c1, s3, s3']
  · have hb2 := hb
    rw [Bool.not_eq_true] at hb
    rw [hb, Bool.false_and, Bool.false_and]
    rw [nrm_wrong hb2] at c0
    simp only at c0
    rw [f51_eq]; unfold c51; rw [callFn_eq (by rfl)]
    simp (disch := first | assumption | omega | (simp (disch := first | assumption | omega) only [flatA0, flatA1, flatA2, flatA3, flatA4, Nat.reduceAdd, Nat.reduceLT, Nat.reduceLeDiff, Nat.reduceEqDiff, Nat.reduceMul, ↓reduceIte]; done) | fail) only [stepA0, stepA1, stepA2, stepA3, stepA4, stepA5, stepA6, stepA7, stepA8, stepA9, ↓reduceIte, Nat.reduceLT, Nat.reduceEqDiff, Nat.reduceAdd, Nat.reduceLeDiff, c0, s3, s3', slD_nil]

theorem refSame (n : Nat) (h : Hps) (hg : ∀ k, n ≤ k → GoodAt k h) (N N' : Int) (d d' : D) (l l' : List LV) (ad ad' : Nat → D) (S : Sv 2 encV n h d l ad) (S' : Sv 2 encV n h d' l' ad') (hs : l.length < 1000000000000) (hs' : l'.length < 1000000000000) :
    callFn (LX (cF Go.Proofs.Try.prog)) n h [(D.agg [.int .i64 (N), d]), (D.agg [.int .i64 (N'), d'])] (cF Go.Proofs.Try.prog 52) = .ok (.bool (Lev.same ⟨N, l⟩ ⟨N', l'⟩)) n h := by
  have hgn := hg n (Nat.le_refl _)
  have s3 := S.okD
  have s3' := S'.okD
  have H0 : Hp n h (n + 2) ((n + 1, (Ob.row 2 [.agg [.int .i64 (N'), d']])) :: (n, (Ob.row 2 [.agg [.int .i64 (N), d]])) :: h) := ((Hp.start hg).cons (r := n) (m := n + 1) (Nat.le_refl _) (by omega) (fun k hk => S.box2 (by omega))).cons (m := n + 2) (r := n + 1) (by omega) (by omega) (fun k hk => S'.box2 (by omega))
  have c0 : ∀ m, n + 2 ≤ m → callFn (LX (cF Go.Proofs.Try.prog)) m ((n + 1, (Ob.row 2 [.agg [.int .i64 (N'), d']])) :: (n, (Ob.row 2 [.agg [.int .i64 (N), d]])) :: h) [(D.agg [.int .i64 (N), d]), (D.agg [.int .i64 (N'), d'])] (cF Go.Proofs.Try.prog 50) = .ok (.bool (Lev.leq ⟨N, l⟩ ⟨N', l'⟩)) m ((n + 1, (Ob.row 2 [.agg [.int .i64 (N'), d']])) :: (n, (Ob.row 2 [.agg [.int .i64 (N), d]])) :: h) := fun m hm => refLeq m _ (H0.good' hm) N N' d d' l l' ad ad' (S.mono H0 hm) (S'.mono H0 hm) hs hs'
  have c1 : ∀ m, n + 2 ≤ m → callFn (LX (cF Go.Proofs.Try.prog)) m ((n + 1, (Ob.row 2 [.agg [.int .i64 (N'), d']])) :: (n, (Ob.row 2 [.agg [.int .i64 (N), d]])) :: h) [(D.agg [.int .i64 (N'), d']), (D.agg [.int .i64 (N), d])] (cF Go.Proofs.Try.prog 50) = .ok (.bool (Lev.leq ⟨N', l'⟩ ⟨N, l⟩)) m ((n + 1, (Ob.row 2 [.agg [.int .i64 (N'), d']])) :: (n, (Ob.row 2 [.agg [.int .i64 (N), d]])) :: h) := fun m hm => refLeq m _ (H0.good' hm) N' N d' d l' l ad' ad (S'.mono H0 hm) (S.mono H0 hm) hs' hs
  rw [← leq_both]
  generalize Lev.leq ⟨N, l⟩ ⟨N', l'⟩ = A at c0 ⊢
  generalize Lev.leq ⟨N', l'⟩ ⟨N, l⟩ = B at c1 ⊢
  rw [f52_eq]; unfold c52; rw [callFn_eq (by rfl)]
  cases A
  · simp (disch := first | assumption | omega | (simp (disch := first | assumption | omega) only [flatA0, flatA1, flatA2, flatA3, flatA4, Nat.reduceAdd, Nat.reduceLT, Nat.reduceLeDiff, Nat.reduceEqDiff, Nat.reduceMul, ↓reduceIte]; done) | fail) only [stepA0, stepA1, stepA2, stepA3, stepA4, stepA5, stepA6, stepA7, stepA8, stepA9, ↓reduceIte, Nat.reduceLT, Nat.reduceEqDiff, Nat.reduceAdd, Nat.reduceLeDiff, c0, c1, s3, s3']
  · simp (disch := first | assumption | omega | (simp (disch := first | assumption | omega) only [flatA0, flatA1, flatA2, flatA3, flatA4, Nat.reduceAdd, Nat.reduceLT, Nat.reduceLeDiff, Nat.reduceEqDiff, Nat.reduceMul, ↓reduceIte]; done) | fail) only [stepA0, stepA1, stepA2, stepA3, stepA4, stepA5, stepA6, stepA7, stepA8, stepA9, ↓reduceIte, Nat.reduceLT, Nat.reduceEqDiff, Nat.reduceAdd, Nat.reduceLeDiff, c0, c1, s3, s3']

theorem kRLeq {m : Nat} {h : Hps} {N N' : Int} {s s' : Sl LV} (hs : s.el.length ≤ 200) (hs' : s'.el.length ≤ 200) (hg : GF m h) : callFn (LX (cF Go.Proofs.Try.prog)) m h [(D.agg [.int .i64 (N), slD 2 encV (s)]), (D.agg [.int .i64 (N'), slD 2 encV (s')])] (cF Go.Proofs.Try.prog 50) = .ok (.bool (Lev.leq ⟨N, s.el⟩ ⟨N', s'.el⟩)) m h := refLeq m h hg.good N N' _ _ _ _ _ _ (svV s) (svV s') (by omega) (by omega)
theorem kSame {m : Nat} {h : Hps} {N N' : Int} {s s' : Sl LV} (hs : s.el.length ≤ 200) (hs' : s'.el.length ≤ 200) (hg : GF m h) : callFn (LX (cF Go.Proofs.Try.prog)) m h [(D.agg [.int .i64 (N), slD 2 encV (s)]), (D.agg [.int .i64 (N'), slD 2 encV (s')])] (cF Go.Proofs.Try.prog 51) = .ok (.bool (Lev.same ⟨N, s.el⟩ ⟨N', s'.el⟩)) m h := lvSame m h hg.good N N' _ _ _ _ _ _ (svV s) (svV s') (by omega) (by omega)
theorem kRSame {m : Nat} {h : Hps} {N N' : Int} {s s' : Sl LV} (hs : s.el.length ≤ 200) (hs' : s'.el.length ≤ 200) (hg : GF m h) : callFn (LX (cF Go.Proofs.Try.prog)) m h [(D.agg [.int .i64 (N), slD 2 encV (s)]), (D.agg [.int .i64 (N'), slD 2 encV (s')])] (cF Go.Proofs.Try.prog 52) = .ok (.bool (Lev.same ⟨N, s.el⟩ ⟨N', s'.el⟩)) m h := refSame m h hg.good N N' _ _ _ _ _ _ (svV s) (svV s') (by omega) (by omega)
end Go.Proofs.Ytjagmfgjlfkmgaa
