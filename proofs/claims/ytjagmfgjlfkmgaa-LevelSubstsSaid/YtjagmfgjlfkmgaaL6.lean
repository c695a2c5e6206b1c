/- Merged: L5 L6. -/
import Derived.Test.YtjagmfgjlfkmgaaLP

/- What is so many more than a level, as the program makes it. No condition. -/
set_option linter.unusedSimpArgs false
set_option linter.unusedVariables false
namespace Go.Proofs.Ytjagmfgjlfkmgaa
open Go

theorem fineI_iff {a : Int} : fineI a = true ↔ 0 ≤ a ∧ a ≤ 1000 := by unfold fineI; simp
theorem right_iff {l : Lev} : l.right = true ↔ (0 ≤ l.n ∧ l.n ≤ 1000) ∧ l.v.length ≤ 64 ∧ ∀ p, p ∈ l.v → (0 ≤ p.1 ∧ p.1 ≤ 1000) ∧ (0 ≤ p.2 ∧ p.2 ≤ 1000) := by
  unfold Lev.right fineV
  simp [fineI_iff, and_assoc]
theorem nrm_right {l : Lev} (h : l.right = true) : l.nrm = (l.norm, 0) := by unfold Lev.nrm; rw [if_pos h]
theorem nrm_wrong {l : Lev} (h : ¬ l.right = true) : l.nrm = (⟨0, []⟩, 13) := by unfold Lev.nrm; rw [if_neg h]

theorem lvSucA (n : Nat) (h : Hps) (hg : ∀ k, n ≤ k → GoodAt k h) (a k : Int) (q : Nat) (hq : getO h q = .row 1 [.int .i64 k]) (ha : 0 ≤ a ∧ a ≤ 1000000) (hk : 0 ≤ k ∧ k ≤ 1000000) : callFn (LX (cF Go.Proofs.Try.prog)) n h [.int .i64 a, .ptr q 0 0] (cF Go.Proofs.Try.prog 72) = .ok (.int .i64 (a + k)) n h := by
  have hgn := hg n (Nat.le_refl _)
  rw [f72_eq]; unfold c72; rw [callFn_eq (by rfl)]
  simp (disch := first | assumption | omega | (simp (disch := first | assumption | omega) only [sB, Nat.reduceAdd, Nat.reduceLT, Nat.reduceLeDiff, Nat.reduceEqDiff, Nat.reduceMul, ↓reduceIte]; done) | fail) only [sA, ↓reduceIte, Nat.reduceLT, Nat.reduceEqDiff, Nat.reduceAdd, Nat.reduceLeDiff, hq]
theorem lvSucB (n : Nat) (a k : Int) (ha : 0 ≤ a ∧ a ≤ 1000000) (hk : 0 ≤ k ∧ k ≤ 1000000) : callFn (LX (cF Go.Proofs.Try.prog)) n [] [.int .i64 a, .ip (.int .i64 k) 0] (cF Go.Proofs.Try.prog 72) = .ok (.int .i64 (a + k)) n [] := by
  have hgn : GoodAt n [] := good_nil
  rw [f72_eq]; unfold c72; rw [callFn_eq (by rfl)]
  simp (disch := first | assumption | omega | (simp (disch := first | assumption | omega) only [sB, Nat.reduceAdd, Nat.reduceLT, Nat.reduceLeDiff, Nat.reduceEqDiff, Nat.reduceMul, ↓reduceIte]; done) | fail) only [sA, ↓reduceIte, Nat.reduceLT, Nat.reduceEqDiff, Nat.reduceAdd, Nat.reduceLeDiff]

theorem lvSuc (n : Nat) (h : Hps) (hg : ∀ k, n ≤ k → GoodAt k h) (N k : Int) (d : D) (l : List LV) (ad : Nat → D) (S : Sv 2 encV n h d l ad) (hs : l.length < 1000000000000) : callFn (LX (cF Go.Proofs.Try.prog)) n h [(D.agg [.int .i64 (N), d]), .int .i64 k] (cF Go.Proofs.Try.prog 41) = .ok (D.tup [.agg [.int .i64 (Lev.suc ⟨N, l⟩ k).1.n, slD 2 encV (Sl.app (Lev.suc ⟨N, l⟩ k).1.v)], .int .i64 (Lev.suc ⟨N, l⟩ k).2]) n h := by
  have s3 := S.okD
  have hgn := hg n (Nat.le_refl _)
  have H0 : Hp n h (n + 3) ((n + 2, (Ob.row 2 [.agg [.int .i64 0, .nils]])) :: (n + 1, .row 1 [.int .i64 k]) :: (n, (Ob.row 2 [.agg [.int .i64 (N), d]])) :: h) := (((Hp.start hg).cons (r := n) (m := n + 1) (Nat.le_refl _) (by omega) (fun k hk => S.box2 (by omega))).box (m := n + 2) (r := n + 1) (by omega) (by omega) rfl).box (m := n + 3) (r := n + 2) (by omega) (by omega) rfl
  have c0 : ∀ m, n + 3 ≤ m → callFn (LX (cF Go.Proofs.Try.prog)) m ((n + 2, (Ob.row 2 [.agg [.int .i64 0, .nils]])) :: (n + 1, .row 1 [.int .i64 k]) :: (n, (Ob.row 2 [.agg [.int .i64 (N), d]])) :: h) [(D.agg [.int .i64 (N), d])] (cF Go.Proofs.Try.prog 36) = .ok (D.tup [.agg [.int .i64 (Lev.nrm ⟨N, l⟩).1.n, slD 2 encV (Sl.app (Lev.nrm ⟨N, l⟩).1.v)], .int .i64 (Lev.nrm ⟨N, l⟩).2]) m ((n + 2, (Ob.row 2 [.agg [.int .i64 0, .nils]])) :: (n + 1, .row 1 [.int .i64 k]) :: (n, (Ob.row 2 [.agg [.int .i64 (N), d]])) :: h) := fun m hm => lvNorm m _ (H0.good' hm) N d l ad (S.mono H0 hm) hs
  unfold Lev.suc
  by_cases hb : Lev.right ⟨N, l⟩ = true
  · rw [if_pos hb]
    rw [nrm_right hb] at c0
    have hr := right_iff.1 (right_norm hb)
    generalize hN : Lev.norm ⟨N, l⟩ = M at c0 hr ⊢
    obtain ⟨Mn, Mv⟩ := M
    obtain ⟨hMn, hlen, hMv⟩ := hr
    replace hlen : Mv.length ≤ 64 := hlen
    replace hMn : 0 ≤ Mn ∧ Mn ≤ 1000 := hMn
    by_cases k0 : k < 0
    · rw [if_pos k0]
      rw [f41_eq]; unfold c41; rw [callFn_eq (by rfl)]
      simp (disch := first | assumption | omega | (simp (disch := first | assumption | omega) only [sB, Nat.reduceAdd, Nat.reduceLT, Nat.reduceLeDiff, Nat.reduceEqDiff, Nat.reduceMul, ↓reduceIte]; done) | fail) only [sA, ↓reduceIte, Nat.reduceLT, Nat.reduceEqDiff, Nat.reduceAdd, Nat.reduceLeDiff, c0, s3, slD_nil]
    · rw [if_neg k0]
      by_cases k1 : 1000 < k
      · rw [if_pos k1]
        rw [f41_eq]; unfold c41; rw [callFn_eq (by rfl)]
        simp (disch := first | assumption | omega | (simp (disch := first | assumption | omega) only [sB, Nat.reduceAdd, Nat.reduceLT, Nat.reduceLeDiff, Nat.reduceEqDiff, Nat.reduceMul, ↓reduceIte]; done) | fail) only [sA, ↓reduceIte, Nat.reduceLT, Nat.reduceEqDiff, Nat.reduceAdd, Nat.reduceLeDiff, c0, s3, slD_nil]
      · rw [if_neg k1]
        have hkk : 0 ≤ k ∧ k ≤ 1000000 := by omega
        have H1 : Hp n h (n + 3) ((n + 2, (Ob.row 2 [.agg [.int .i64 0, .nils]])) :: (n + 1, .row 1 [.int .i64 k]) :: (n, (Ob.row 2 [.agg [.int .i64 (Mn), slD 2 encV (Sl.app Mv)]])) :: h) := (((Hp.start hg).box (r := n) (m := n + 1) (Nat.le_refl _) (by omega) (flatL ⟨Mn, Sl.app Mv⟩)).box (m := n + 2) (r := n + 1) (by omega) (by omega) rfl).box (m := n + 3) (r := n + 2) (by omega) (by omega) rfl
        have c1 : ∀ m, n + 3 ≤ m → callFn (LX (cF Go.Proofs.Try.prog)) m ((n + 2, (Ob.row 2 [.agg [.int .i64 0, .nils]])) :: (n + 1, .row 1 [.int .i64 k]) :: (n, (Ob.row 2 [.agg [.int .i64 (Mn), slD 2 encV (Sl.app Mv)]])) :: h) [.int .i64 Mn, .ptr (n + 1) 0 0] (cF Go.Proofs.Try.prog 72) = .ok (.int .i64 (Mn + k)) m ((n + 2, (Ob.row 2 [.agg [.int .i64 0, .nils]])) :: (n + 1, .row 1 [.int .i64 k]) :: (n, (Ob.row 2 [.agg [.int .i64 (Mn), slD 2 encV (Sl.app Mv)]])) :: h) := fun m hm => lvSucA m _ (H1.good' hm) Mn k (n + 1) (by rw [getO_tl (by omega), getO_hd]) (by omega) hkk
        generalize hR : Lev.told (Lev.more ⟨Mn, Mv⟩ k) = R
        rw [f41_eq]; unfold c41; rw [callFn_eq (by rfl)]
        simp (disch := first | assumption | omega | (simp (disch := first | assumption | omega) only [sB, Nat.reduceAdd, Nat.reduceLT, Nat.reduceLeDiff, Nat.reduceEqDiff, Nat.reduceMul, ↓reduceIte]; done) | fail) only [sA, ↓reduceIte, Nat.reduceLT, Nat.reduceEqDiff, Nat.reduceAdd, Nat.reduceLeDiff, c0, c1, s3]
        generalize hr : LX (cF Go.Proofs.Try.prog) (.loop l41_0) _ _ _ = r
        obtain ⟨x, e2, n2, h2, rfl, rfl, H2, p2, b1, b2, d2, b3, B2, g4, g8⟩ := loop_up hr Mv.length
          (fun i e n' h' => Hp n h n' h' ∧ n + 30 ≤ n' ∧ getO h' (n + 1) = .row 1 [.int .i64 k] ∧ getO h' (n + 2) = (Ob.row 2 [.agg [.int .i64 0, .nils]]) ∧ ∃ d, getO h' (n + 29) = .row 2 [.agg [.int .i64 (Mn + k), d]] ∧ Bld 2 encV (n + 30) ((Mv.take i).map (addV k)) h' d ∧
            get (po 4) e = .ptr (n + 2) 0 0 ∧ get (po 8) e = .ptr (n + 29) 0 0 ∧ get (po 7) e = .fn 72 [] [.ptr (n + 1) 0 0] ∧ get (po 36) e = slD 2 encV (Sl.app Mv) ∧ get (po 37) e = .int .i64 (Mv.length : Nat) ∧ get (po 38) e = .int .i64 (i : Nat))
          (fun x e n' h' => x = .exit 1 ∧ Hp n h n' h' ∧ n + 30 ≤ n' ∧ getO h' (n + 1) = .row 1 [.int .i64 k] ∧ getO h' (n + 2) = (Ob.row 2 [.agg [.int .i64 0, .nils]]) ∧ ∃ d, getO h' (n + 29) = .row 2 [.agg [.int .i64 (Mn + k), d]] ∧ Bld 2 encV (n + 30) (Mv.map (addV k)) h' d ∧
            get (po 4) e = .ptr (n + 2) 0 0 ∧ get (po 8) e = .ptr (n + 29) 0 0)
          (by
            rintro e n' h' ⟨H, p1, b1, b2, d, b3, B, g4, g8, g7, g36, g37, g38⟩
            rw [List.take_length] at B
            unfold l41_0
            simp (disch := first | assumption | omega | (simp (disch := first | assumption | omega) only [sB, Nat.reduceAdd, Nat.reduceLT, Nat.reduceLeDiff, Nat.reduceEqDiff, Nat.reduceMul, ↓reduceIte]; done) | fail) only [sA, ↓reduceIte, Nat.reduceLT, Nat.reduceEqDiff, Nat.reduceAdd, Nat.reduceLeDiff, g36, g37, g38]
            exact ⟨_, _, _, _, rfl, by simp, rfl, H.mono (by omega), by omega, b1, b2, d, b3, B, by simp (disch := first | assumption | omega | (simp (disch := first | assumption | omega) only [sB, Nat.reduceAdd, Nat.reduceLT, Nat.reduceLeDiff, Nat.reduceEqDiff, Nat.reduceMul, ↓reduceIte]; done) | fail) only [sA, ↓reduceIte, Nat.reduceLT, Nat.reduceEqDiff, Nat.reduceAdd, Nat.reduceLeDiff, g4], by simp (disch := first | assumption | omega | (simp (disch := first | assumption | omega) only [sB, Nat.reduceAdd, Nat.reduceLT, Nat.reduceLeDiff, Nat.reduceEqDiff, Nat.reduceMul, ↓reduceIte]; done) | fail) only [sA, ↓reduceIte, Nat.reduceLT, Nat.reduceEqDiff, Nat.reduceAdd, Nat.reduceLeDiff, g8]⟩)
          (by
            rintro i e n' h' hi ⟨H, p1, b1, b2, d, b3, B, g4, g8, g7, g36, g37, g38⟩
            have hv := hMv Mv[i] (List.getElem_mem hi)
            have H1 : Hp n h (n' + 4) ((n' + 3, .row 2 [encV Mv[i]]) :: h') := H.box (by omega) (by omega) rfl
            have B1 : Bld 2 encV (n + 30) ((Mv.take i).map (addV k)) ((n' + 3, .row 2 [encV Mv[i]]) :: h') d := B.cons (H.good n' (Nat.le_refl _)) (by omega)
            obtain ⟨D', H', A⟩ := app_bldx (b := 16) B1 H1 (by omega) (by omega) lowV [addV k Mv[i]] (by simp; omega)
            have A1 := fun m hm => (A m hm).1
            have A2 := fun m hm => (A m hm).2.1
            have A3 := fun m hm => (A m hm).2.2.1
            have A4 := fun m hm => (A m hm).2.2.2.1
            have hd1 := B.okD
            have hd2 : ∀ m, n' + 4 ≤ m → one (D' m) = true := fun m hm => (A2 m hm).one
            have hg3 : ∀ m, n' + 4 ≤ m → getO (H' m) (n + 29) = .row 2 [.agg [.int .i64 (Mn + k), d]] := fun m hm => by rw [A4 m hm _ (by omega)]; exact getO_keep b3 (by omega)
            simp only [encV, addV, List.map_cons, List.map_nil] at A1
            have c2 : ∀ m, callFn (LX (cF Go.Proofs.Try.prog)) m [] [.int .i64 Mv[i].2, .ip (.int .i64 k) 0] (cF Go.Proofs.Try.prog 72) = .ok (.int .i64 (Mv[i].2 + k)) m [] := fun m => lvSucB m Mv[i].2 k (by omega) hkk
            have hK : ∀ m, n' + 4 ≤ m → keysFrom m ((n' + 3, .row 2 [.agg [.int .i64 Mv[i].1, .int .i64 Mv[i].2]]) :: h') = [] := fun m hm => keys_low (H1.good' hm m (Nat.le_refl _))
            have hi2 : i < (Sl.app Mv).el.length := hi
            unfold l41_0
            simp (disch := first | assumption | omega | (simp (disch := first | assumption | omega) only [sB, Nat.reduceAdd, Nat.reduceLT, Nat.reduceLeDiff, Nat.reduceEqDiff, Nat.reduceMul, ↓reduceIte, hd2]; done) | fail) only [sA, ↓reduceIte, Nat.reduceLT, Nat.reduceEqDiff, Nat.reduceAdd, Nat.reduceLeDiff, g4, g8, g7, g36, g37, g38, app_el, encV, b1, b3, c2, hK, hd1, hg3, A1, hd2]
            have hm0 : n' + 4 ≤ n' + 10995116277765 := by omega
            have hm1 : n' + 10995116277765 + 1 ≤ n' + 14293651161095 := by omega
            generalize n' + 10995116277765 = m0 at hm0 hm1 ⊢
            have hgm := hg3 m0 hm0
            have hlow : ∀ q, q ≤ n + 2 → getO (H' m0) q = getO h' q := fun q hq => by rw [A4 m0 hm0 q (by omega), getO_tl (by omega)]
            exact ⟨_, _, _, _, rfl, .inl ⟨rfl, ((A3 m0 hm0).set (r := n + 29) (by omega) (fun q hq => (A2 m0 hm0).box2 ((A3 m0 hm0).good q hq))).mono (by omega), by omega, getO_set2 hgm ((hlow _ (by omega)).trans b1) (by omega), getO_set2 hgm ((hlow _ (by omega)).trans b2) (by omega), D' m0, getO_set1 hgm, by
              rw [take_snoc hi, List.map_append]
              exact (A2 m0 hm0).set hgm (by omega), by simp (disch := first | assumption | omega | (simp (disch := first | assumption | omega) only [sB, Nat.reduceAdd, Nat.reduceLT, Nat.reduceLeDiff, Nat.reduceEqDiff, Nat.reduceMul, ↓reduceIte]; done) | fail) only [sA, ↓reduceIte, Nat.reduceLT, Nat.reduceEqDiff, Nat.reduceAdd, Nat.reduceLeDiff, g4], by simp (disch := first | assumption | omega | (simp (disch := first | assumption | omega) only [sB, Nat.reduceAdd, Nat.reduceLT, Nat.reduceLeDiff, Nat.reduceEqDiff, Nat.reduceMul, ↓reduceIte]; done) | fail) only [sA, ↓reduceIte, Nat.reduceLT, Nat.reduceEqDiff, Nat.reduceAdd, Nat.reduceLeDiff, g8], by simp (disch := first | assumption | omega | (simp (disch := first | assumption | omega) only [sB, Nat.reduceAdd, Nat.reduceLT, Nat.reduceLeDiff, Nat.reduceEqDiff, Nat.reduceMul, ↓reduceIte]; done) | fail) only [sA, ↓reduceIte, Nat.reduceLT, Nat.reduceEqDiff, Nat.reduceAdd, Nat.reduceLeDiff, g7], by simp (disch := first | assumption | omega | (simp (disch := first | assumption | omega) only [sB, Nat.reduceAdd, Nat.reduceLT, Nat.reduceLeDiff, Nat.reduceEqDiff, Nat.reduceMul, ↓reduceIte]; done) | fail) only [sA, ↓reduceIte, Nat.reduceLT, Nat.reduceEqDiff, Nat.reduceAdd, Nat.reduceLeDiff, g36], by simp (disch := first | assumption | omega | (simp (disch := first | assumption | omega) only [sB, Nat.reduceAdd, Nat.reduceLT, Nat.reduceLeDiff, Nat.reduceEqDiff, Nat.reduceMul, ↓reduceIte]; done) | fail) only [sA, ↓reduceIte, Nat.reduceLT, Nat.reduceEqDiff, Nat.reduceAdd, Nat.reduceLeDiff, g37], by simp (disch := first | assumption | omega | (simp (disch := first | assumption | omega) only [sB, Nat.reduceAdd, Nat.reduceLT, Nat.reduceLeDiff, Nat.reduceEqDiff, Nat.reduceMul, ↓reduceIte]; done) | fail) only [sA, ↓reduceIte, Nat.reduceLT, Nat.reduceEqDiff, Nat.reduceAdd, Nat.reduceLeDiff]⟩⟩)
          ⟨(H1.box (r := n + 29) (m := n + 30) (by omega) (by omega) rfl).mono (by omega), by omega, by simp (disch := first | assumption | omega | (simp (disch := first | assumption | omega) only [sB, Nat.reduceAdd, Nat.reduceLT, Nat.reduceLeDiff, Nat.reduceEqDiff, Nat.reduceMul, ↓reduceIte]; done) | fail) only [sA, ↓reduceIte, Nat.reduceLT, Nat.reduceEqDiff, Nat.reduceAdd, Nat.reduceLeDiff], by simp (disch := first | assumption | omega | (simp (disch := first | assumption | omega) only [sB, Nat.reduceAdd, Nat.reduceLT, Nat.reduceLeDiff, Nat.reduceEqDiff, Nat.reduceMul, ↓reduceIte]; done) | fail) only [sA, ↓reduceIte, Nat.reduceLT, Nat.reduceEqDiff, Nat.reduceAdd, Nat.reduceLeDiff], .nils, by simp (disch := first | assumption | omega | (simp (disch := first | assumption | omega) only [sB, Nat.reduceAdd, Nat.reduceLT, Nat.reduceLeDiff, Nat.reduceEqDiff, Nat.reduceMul, ↓reduceIte]; done) | fail) only [sA, ↓reduceIte, Nat.reduceLT, Nat.reduceEqDiff, Nat.reduceAdd, Nat.reduceLeDiff], .inl ⟨rfl, rfl⟩, by simp (disch := first | assumption | omega | (simp (disch := first | assumption | omega) only [sB, Nat.reduceAdd, Nat.reduceLT, Nat.reduceLeDiff, Nat.reduceEqDiff, Nat.reduceMul, ↓reduceIte]; done) | fail) only [sA, ↓reduceIte, Nat.reduceLT, Nat.reduceEqDiff, Nat.reduceAdd, Nat.reduceLeDiff], by simp (disch := first | assumption | omega | (simp (disch := first | assumption | omega) only [sB, Nat.reduceAdd, Nat.reduceLT, Nat.reduceLeDiff, Nat.reduceEqDiff, Nat.reduceMul, ↓reduceIte]; done) | fail) only [sA, ↓reduceIte, Nat.reduceLT, Nat.reduceEqDiff, Nat.reduceAdd, Nat.reduceLeDiff], by simp (disch := first | assumption | omega | (simp (disch := first | assumption | omega) only [sB, Nat.reduceAdd, Nat.reduceLT, Nat.reduceLeDiff, Nat.reduceEqDiff, Nat.reduceMul, ↓reduceIte]; done) | fail) only [sA, ↓reduceIte, Nat.reduceLT, Nat.reduceEqDiff, Nat.reduceAdd, Nat.reduceLeDiff], by simp (disch := first | assumption | omega | (simp (disch := first | assumption | omega) only [sB, Nat.reduceAdd, Nat.reduceLT, Nat.reduceLeDiff, Nat.reduceEqDiff, Nat.reduceMul, ↓reduceIte]; done) | fail) only [sA, ↓reduceIte, Nat.reduceLT, Nat.reduceEqDiff, Nat.reduceAdd, Nat.reduceLeDiff], by simp (disch := first | assumption | omega | (simp (disch := first | assumption | omega) only [sB, Nat.reduceAdd, Nat.reduceLT, Nat.reduceLeDiff, Nat.reduceEqDiff, Nat.reduceMul, ↓reduceIte]; done) | fail) only [sA, ↓reduceIte, Nat.reduceLT, Nat.reduceEqDiff, Nat.reduceAdd, Nat.reduceLeDiff], by simp (disch := first | assumption | omega | (simp (disch := first | assumption | omega) only [sB, Nat.reduceAdd, Nat.reduceLT, Nat.reduceLeDiff, Nat.reduceEqDiff, Nat.reduceMul, ↓reduceIte]; done) | fail) only [sA, ↓reduceIte, Nat.reduceLT, Nat.reduceEqDiff, Nat.reduceAdd, Nat.reduceLeDiff]⟩
        obtain ⟨ad2, S2⟩ := B2.sv (H2.good n2 (Nat.le_refl _)) aggV
        have hod := S2.okD
        have c3 : ∀ m, n2 ≤ m → callFn (LX (cF Go.Proofs.Try.prog)) m h2 [(D.agg [.int .i64 (Mn + k), d2])] (cF Go.Proofs.Try.prog 73) = .ok (D.tup [.agg [.int .i64 (Lev.told (Lev.more ⟨Mn, Mv⟩ k)).1.n, slD 2 encV (Sl.app (Lev.told (Lev.more ⟨Mn, Mv⟩ k)).1.v)], .int .i64 (Lev.told (Lev.more ⟨Mn, Mv⟩ k)).2]) m h2 := fun m hm => lvTold m h2 (H2.good' hm) (Mn + k) d2 (Mv.map (addV k)) ad2 (S2.mono (Hp.start (H2.good' (Nat.le_refl _))) hm) (by rw [List.length_map]; omega)
        rw [hR] at c3
        obtain ⟨⟨Rn, Rv⟩, Re⟩ := R
        have F4 := fun m hm => finish_flat (d := (D.tup [.agg [.int .i64 (((⟨Rn, Rv⟩ : Lev), Re)).1.n, slD 2 encV (Sl.app (((⟨Rn, Rv⟩ : Lev), Re)).1.v)], .int .i64 (((⟨Rn, Rv⟩ : Lev), Re)).2])) (by rw [flat_tup]; simp [flat2_agg, flat1_slD, flat1_int, flat2_int]) ((H2.set (r := n + 2) (x := (Ob.row 2 [.agg [.int .i64 (Rn), slD 2 encV (Sl.app Rv)]])) (by omega) (fun q _ => lowO_one (low_flat (flatL ⟨Rn, Sl.app Rv⟩)))).mono (m := m) hm)
        have b4 : getO (setO h2 (n + 2) (Ob.row 2 [.agg [.int .i64 (Rn), slD 2 encV (Sl.app Rv)]])) (n + 2) = (Ob.row 2 [.agg [.int .i64 (Rn), slD 2 encV (Sl.app Rv)]]) := getO_set1 b2
        simp (disch := first | assumption | omega | (simp (disch := first | assumption | omega) only [sB, Nat.reduceAdd, Nat.reduceLT, Nat.reduceLeDiff, Nat.reduceEqDiff, Nat.reduceMul, ↓reduceIte]; done) | fail) only [sA, ↓reduceIte, Nat.reduceLT, Nat.reduceEqDiff, Nat.reduceAdd, Nat.reduceLeDiff, g4, g8, b2, b3, b4, hod, c3, F4]
  · rw [if_neg hb]
    rw [nrm_wrong hb] at c0
    rw [f41_eq]; unfold c41; rw [callFn_eq (by rfl)]
    simp (disch := first | assumption | omega | (simp (disch := first | assumption | omega) only [sB, Nat.reduceAdd, Nat.reduceLT, Nat.reduceLeDiff, Nat.reduceEqDiff, Nat.reduceMul, ↓reduceIte]; done) | fail) only [sA, ↓reduceIte, Nat.reduceLT, Nat.reduceEqDiff, Nat.reduceAdd, Nat.reduceLeDiff, c0, s3, slD_nil]
end Go.Proofs.Ytjagmfgjlfkmgaa

/- The greater one of two levels; whether two are one; the numbers that they have. No condition. -/
namespace Go.Proofs.Ytjagmfgjlfkmgaa
open Go

theorem lvMax (n : Nat) (h : Hps) (hg : ∀ k, n ≤ k → GoodAt k h) (N N' : Int) (d d' : D) (l l' : List LV) (ad ad' : Nat → D) (S : Sv 2 encV n h d l ad) (S' : Sv 2 encV n h d' l' ad') (hs : l.length < 1000000000000) (hs' : l'.length < 1000000000000) :
    callFn (LX (cF Go.Proofs.Try.prog)) n h [(D.agg [.int .i64 (N), d]), (D.agg [.int .i64 (N'), d'])] (cF Go.Proofs.Try.prog 42) = .ok (D.tup [.agg [.int .i64 (Lev.max2 ⟨N, l⟩ ⟨N', l'⟩).1.n, slD 2 encV (Sl.app (Lev.max2 ⟨N, l⟩ ⟨N', l'⟩).1.v)], .int .i64 (Lev.max2 ⟨N, l⟩ ⟨N', l'⟩).2]) n h := by
  have hgn := hg n (Nat.le_refl _)
  have s3 := S.okD
  have s3' := S'.okD
  have H0 : Hp n h (n + 3) ((n + 2, (Ob.row 2 [.agg [.int .i64 0, .nils]])) :: (n + 1, (Ob.row 2 [.agg [.int .i64 (N'), d']])) :: (n, (Ob.row 2 [.agg [.int .i64 (N), d]])) :: h) := (((Hp.start hg).cons (r := n) (m := n + 1) (Nat.le_refl _) (by omega) (fun k hk => S.box2 (by omega))).cons (m := n + 2) (r := n + 1) (by omega) (by omega) (fun k hk => S'.box2 (by omega))).box (m := n + 3) (r := n + 2) (by omega) (by omega) rfl
  have c0 : ∀ m, n + 3 ≤ m → callFn (LX (cF Go.Proofs.Try.prog)) m ((n + 2, (Ob.row 2 [.agg [.int .i64 0, .nils]])) :: (n + 1, (Ob.row 2 [.agg [.int .i64 (N'), d']])) :: (n, (Ob.row 2 [.agg [.int .i64 (N), d]])) :: h) [(D.agg [.int .i64 (N), d])] (cF Go.Proofs.Try.prog 36) = .ok (D.tup [.agg [.int .i64 (Lev.nrm ⟨N, l⟩).1.n, slD 2 encV (Sl.app (Lev.nrm ⟨N, l⟩).1.v)], .int .i64 (Lev.nrm ⟨N, l⟩).2]) m ((n + 2, (Ob.row 2 [.agg [.int .i64 0, .nils]])) :: (n + 1, (Ob.row 2 [.agg [.int .i64 (N'), d']])) :: (n, (Ob.row 2 [.agg [.int .i64 (N), d]])) :: h) := fun m hm => lvNorm m _ (H0.good' hm) N d l ad (S.mono H0 hm) hs
  unfold Lev.max2
  by_cases hb : Lev.right ⟨N, l⟩ = true
  · rw [if_pos hb]
    rw [nrm_right hb] at c0
    have hr := right_iff.1 (right_norm hb)
    generalize hM : Lev.norm ⟨N, l⟩ = M at c0 hr ⊢
    obtain ⟨Mn, Mv⟩ := M
    obtain ⟨hMn, hlen, hMv⟩ := hr
    replace hlen : Mv.length ≤ 64 := hlen
    replace hMn : 0 ≤ Mn ∧ Mn ≤ 1000 := hMn
    have H1 : Hp n h (n + 3) ((n + 2, (Ob.row 2 [.agg [.int .i64 0, .nils]])) :: (n + 1, (Ob.row 2 [.agg [.int .i64 (N'), d']])) :: (n, (Ob.row 2 [.agg [.int .i64 (Mn), slD 2 encV (Sl.app Mv)]])) :: h) := (((Hp.start hg).box (r := n) (m := n + 1) (Nat.le_refl _) (by omega) (flatL ⟨Mn, Sl.app Mv⟩)).cons (m := n + 2) (r := n + 1) (by omega) (by omega) (fun k hk => S'.box2 (by omega))).box (m := n + 3) (r := n + 2) (by omega) (by omega) rfl
    have c1 : ∀ m, n + 3 ≤ m → callFn (LX (cF Go.Proofs.Try.prog)) m ((n + 2, (Ob.row 2 [.agg [.int .i64 0, .nils]])) :: (n + 1, (Ob.row 2 [.agg [.int .i64 (N'), d']])) :: (n, (Ob.row 2 [.agg [.int .i64 (Mn), slD 2 encV (Sl.app Mv)]])) :: h) [(D.agg [.int .i64 (N'), d'])] (cF Go.Proofs.Try.prog 36) = .ok (D.tup [.agg [.int .i64 (Lev.nrm ⟨N', l'⟩).1.n, slD 2 encV (Sl.app (Lev.nrm ⟨N', l'⟩).1.v)], .int .i64 (Lev.nrm ⟨N', l'⟩).2]) m ((n + 2, (Ob.row 2 [.agg [.int .i64 0, .nils]])) :: (n + 1, (Ob.row 2 [.agg [.int .i64 (N'), d']])) :: (n, (Ob.row 2 [.agg [.int .i64 (Mn), slD 2 encV (Sl.app Mv)]])) :: h) := fun m hm => lvNorm m _ (H1.good' hm) N' d' l' ad' (S'.mono H1 hm) hs'
    by_cases hb' : Lev.right ⟨N', l'⟩ = true
    · rw [if_pos hb']
      rw [nrm_right hb'] at c1
      have hr' := right_iff.1 (right_norm hb')
      generalize hM' : Lev.norm ⟨N', l'⟩ = M' at c1 hr' ⊢
      obtain ⟨Mn', Mv'⟩ := M'
      obtain ⟨hMn', hlen', hMv'⟩ := hr'
      replace hlen' : Mv'.length ≤ 64 := hlen'
      replace hMn' : 0 ≤ Mn' ∧ Mn' ≤ 1000 := hMn'
      have H2 : Hp n h (n + 3) ((n + 2, (Ob.row 2 [.agg [.int .i64 0, .nils]])) :: (n + 1, (Ob.row 2 [.agg [.int .i64 (Mn'), slD 2 encV (Sl.app Mv')]])) :: (n, (Ob.row 2 [.agg [.int .i64 (Mn), slD 2 encV (Sl.app Mv)]])) :: h) := (((Hp.start hg).box (r := n) (m := n + 1) (Nat.le_refl _) (by omega) (flatL ⟨Mn, Sl.app Mv⟩)).box (m := n + 2) (r := n + 1) (by omega) (by omega) (flatL ⟨Mn', Sl.app Mv'⟩)).box (m := n + 3) (r := n + 2) (by omega) (by omega) rfl
      have c2 : ∀ m, callFn (LX (cF Go.Proofs.Try.prog)) m [] [slD 2 encV (Sl.app Mv), slD 2 encV (Sl.app Mv'), .fn 75 [] [], .fn 76 [] []] (cF Go.Proofs.Try.prog 74) = .ok (slD 2 encV (Sl.app (merge Mv Mv'))) m [] := fun m => lvJoined m [] (fun _ _ => good_nil) (Sl.app Mv) (Sl.app Mv') (show Mv.length + Mv'.length < _ by omega)
      have hml : (merge Mv Mv').length ≤ 128 := by
        have hn := (nfL_nf l).srt
        have hn' := (nfL_nf l').srt
        have e1 : Mv = nfL l := by have := congrArg Lev.v hM; exact this.symm
        have e2 : Mv' = nfL l' := by have := congrArg Lev.v hM'; exact this.symm
        have := nf_len (merge_nf (a := Mv) (b := Mv') (by rw [e1]; exact hn) (by rw [e2]; exact hn'))
        rw [List.length_append] at this
        omega
      have c3 : ∀ m, n + 3 ≤ m → callFn (LX (cF Go.Proofs.Try.prog)) m ((n + 2, (Ob.row 2 [.agg [.int .i64 0, .nils]])) :: (n + 1, (Ob.row 2 [.agg [.int .i64 (Mn'), slD 2 encV (Sl.app Mv')]])) :: (n, (Ob.row 2 [.agg [.int .i64 (Mn), slD 2 encV (Sl.app Mv)]])) :: h) [(D.agg [.int .i64 (max Mn Mn'), slD 2 encV (Sl.app (merge Mv Mv'))])] (cF Go.Proofs.Try.prog 73) = .ok (D.tup [.agg [.int .i64 (Lev.told (Lev.join ⟨Mn, Mv⟩ ⟨Mn', Mv'⟩)).1.n, slD 2 encV (Sl.app (Lev.told (Lev.join ⟨Mn, Mv⟩ ⟨Mn', Mv'⟩)).1.v)], .int .i64 (Lev.told (Lev.join ⟨Mn, Mv⟩ ⟨Mn', Mv'⟩)).2]) m ((n + 2, (Ob.row 2 [.agg [.int .i64 0, .nils]])) :: (n + 1, (Ob.row 2 [.agg [.int .i64 (Mn'), slD 2 encV (Sl.app Mv')]])) :: (n, (Ob.row 2 [.agg [.int .i64 (Mn), slD 2 encV (Sl.app Mv)]])) :: h) := fun m hm => lvTold m _ (H2.good' hm) (max Mn Mn') _ (merge Mv Mv') _ (svA _) (by omega)
      have hK : ∀ m, n + 3 ≤ m → keysFrom m ((n + 2, (Ob.row 2 [.agg [.int .i64 0, .nils]])) :: (n + 1, (Ob.row 2 [.agg [.int .i64 (Mn'), slD 2 encV (Sl.app Mv')]])) :: (n, (Ob.row 2 [.agg [.int .i64 (Mn), slD 2 encV (Sl.app Mv)]])) :: h) = [] := fun m hm => keys_low (H2.good' hm m (Nat.le_refl _))
      generalize hR : Lev.told (Lev.join ⟨Mn, Mv⟩ ⟨Mn', Mv'⟩) = R at c3 ⊢
      obtain ⟨⟨Rn, Rv⟩, Re⟩ := R
      rw [f42_eq]; unfold c42; rw [callFn_eq (by rfl)]
      simp (disch := first | assumption | omega | (simp (disch := first | assumption | omega) only [sB, Nat.reduceAdd, Nat.reduceLT, Nat.reduceLeDiff, Nat.reduceEqDiff, Nat.reduceMul, ↓reduceIte]; done) | fail) only [sA, ↓reduceIte, Nat.reduceLT, Nat.reduceEqDiff, Nat.reduceAdd, Nat.reduceLeDiff, c0, c1, c2, c3, s3, s3', hK]
    · rw [if_neg hb']
      rw [nrm_wrong hb'] at c1
      rw [f42_eq]; unfold c42; rw [callFn_eq (by rfl)]
      simp (disch := first | assumption | omega | (simp (disch := first | assumption | omega) only [sB, Nat.reduceAdd, Nat.reduceLT, Nat.reduceLeDiff, Nat.reduceEqDiff, Nat.reduceMul, ↓reduceIte]; done) | fail) only [sA, ↓reduceIte, Nat.reduceLT, Nat.reduceEqDiff, Nat.reduceAdd, Nat.reduceLeDiff, c0, c1, s3, s3', slD_nil]
  · rw [if_neg hb]
    rw [nrm_wrong hb] at c0
    rw [f42_eq]; unfold c42; rw [callFn_eq (by rfl)]
    simp (disch := first | assumption | omega | (simp (disch := first | assumption | omega) only [sB, Nat.reduceAdd, Nat.reduceLT, Nat.reduceLeDiff, Nat.reduceEqDiff, Nat.reduceMul, ↓reduceIte]; done) | fail) only [sA, ↓reduceIte, Nat.reduceLT, Nat.reduceEqDiff, Nat.reduceAdd, Nat.reduceLeDiff, c0, s3, s3', slD_nil]
end Go.Proofs.Ytjagmfgjlfkmgaa
