/- The reference's Eval of any row of numbers; good heaps. No condition. -/
import Derived.Test.YtjagmfgjlfkmgaaSLY
set_option linter.unusedSimpArgs false
set_option linter.unusedVariables false
namespace Go.Proofs.Ytjagmfgjlfkmgaa
open Go

/-- what the reference's Eval tells, whatever the values: the sums go round -/
noncomputable def Lev.raw (l : Lev) (v : List Int) : Int := l.v.foldl (fun m p => max m (wr .i64 (rv v p.1 + p.2))) l.n
noncomputable def Lev.rawEval (l : Lev) (v : List Int) : Int := if l.right then l.raw v else 0
theorem raw_snoc (N : Int) (l : List LV) (p : LV) (v : List Int) : Lev.raw ⟨N, l ++ [p]⟩ v = max (Lev.raw ⟨N, l⟩ v) (wr .i64 (rv v p.1 + p.2)) := by
  unfold Lev.raw; simp only [List.foldl_append, List.foldl_cons, List.foldl_nil]
theorem raw_low {l : Lev} {v : List Int} (hv : ∀ x, x ∈ v → x ≤ 2000000) : l.rawEval v = l.eval v := by
  unfold Lev.rawEval Lev.eval
  by_cases h : l.right = true
  · rw [if_pos h, if_pos h]
    obtain ⟨_, _, hV⟩ := right_iff.1 h
    unfold Lev.raw Lev.val
    have key : ∀ (vs : List LV) (N : Int), (∀ p, p ∈ vs → 0 ≤ p.2 ∧ p.2 ≤ 1000) → vs.foldl (fun m p => max m (wr .i64 (rv v p.1 + p.2))) N = vs.foldl (fun m p => max m (rv v p.1 + p.2)) N := by
      intro vs
      induction vs with
      | nil => intro N _; rfl
      | cons p t ih =>
        intro N hp
        have h1 := hp p (by simp)
        have h2 := rv_pos v p.1
        have h3 : rv v p.1 ≤ 2000000 := by
          unfold rv
          split
          · rename_i x hx
            have := hv x (List.mem_of_getElem? hx)
            omega
          · decide
        simp only [List.foldl_cons]
        rw [wr_in (by omega) (by omega)]
        exact ih _ (fun q hq => hp q (by simp [hq]))
    exact key l.v l.n (fun p hp => (hV p hp).2)
  · rw [if_neg h, if_neg h]

/-- a row of numbers that can be read: handed in, or put together by a caller -/
structure Si (n : Nat) (h : Hps) (d : D) (l : List Int) (ad : Nat → D) : Prop where
  len : ∀ m h', lenD m h' .slice d = .ok (.int .i64 (l.length : Nat)) m h'
  idx : ∀ m h' i, i < l.length → iaddrD m h' 1 d i = .ok (ad i) m h'
  ld : ∀ h', (∀ q, q < n → getO h' q = getO h q) → ∀ m i (hi : i < l.length), loadD false 1 m h' (ad i) = .ok (.int .i64 l[i]) m h'
  okD : ∀ m h', Go.Proofs.Ytjagmfgjlfkmgaa.okD m h' d = .ok d m h'
theorem Si.slD {n : Nat} {h : Hps} {s : Sl Int} : Si n h (slD 1 encN s) s.el (fun i => .ip (if hi : i < s.el.length then encN s.el[i] else .junk) 0) where
  len := fun m h' => len_slD
  idx := fun m h' i hi => by rw [iaddr_slD hi, dif_pos hi]
  ld := fun h' _ m i hi => by rw [dif_pos hi]; rfl
  okD := fun m h' => okD_slD
theorem lowN (m : Nat) (x : Int) : low m (encN x) := low_flat rfl
theorem Bld.si {n1 m : Nat} {h : Hps} {l : List Int} {d : D} (hB : Bld 1 encN n1 l h d) (hg : GoodAt m h) : ∃ ad, Si m h d l ad := by
  rcases hB with ⟨rfl, rfl⟩ | ⟨r, q1, q2, rfl, q4⟩
  · exact ⟨_, Si.slD (s := Sl.app [])⟩
  · have hrm := getO_low hg (show getO h r ≠ .none by rw [q4]; exact fun h => by cases h)
    refine ⟨fun i => .ptr r i 0, ⟨fun m h' => rfl, fun m h' i hi => ?_, fun h' hq m i hi => ?_, fun m h' => rfl⟩⟩
    · show ifR (Bool.and (Nat.blt i l.length) (Nat.beq 1 1)) (.ok (.ptr r (0 + i) 0) m h') = _
      rw [blt_iff, decide_eq_true hi, Nat.beq_refl, Nat.zero_add]; rfl
    · show loadR false 1 i 0 m h' (getO h' r) = _
      rw [hq r hrm, q4, loadR_row, List.getD_eq_getElem?_getD, List.getElem?_map, List.getElem?_eq_getElem hi]
      rfl

set_option maxHeartbeats 4000000 in
theorem refEvalS (n : Nat) (h : Hps) (hg : ∀ k, n ≤ k → GoodAt k h) (N : Int) (s : Sl LV) (hs : s.el.length < 1000000000000) (d : D) (v : List Int) (ad : Nat → D) (S : Si n h d v ad) (hl : v.length < 1000000000000) :
    callFn (LX (cFk kS Go.Proofs.Try.prog)) n h [(D.agg [.int .i64 (N), slD 2 encV (s)]), d] (cFk kS Go.Proofs.Try.prog 46) = .ok (.int .i64 (Lev.rawEval ⟨N, s.el⟩ v)) n h := by
  have hgn := hg n (Nat.le_refl _)
  have H0 : Hp n h (n + 1) ((n, (Ob.row 2 [.agg [.int .i64 (N), slD 2 encV (s)]])) :: h) := (Hp.start hg).box (r := n) (m := n + 1) (Nat.le_refl _) (by omega) (flatL ⟨N, s⟩)
  have c0 : ∀ m, n + 1 ≤ m → callFn (LX (cFk kS Go.Proofs.Try.prog)) m ((n, (Ob.row 2 [.agg [.int .i64 (N), slD 2 encV (s)]])) :: h) [(D.agg [.int .i64 (N), slD 2 encV (s)])] (cFk kS Go.Proofs.Try.prog 70) = .ok (.bool (Lev.right ⟨N, s.el⟩)) m ((n, (Ob.row 2 [.agg [.int .i64 (N), slD 2 encV (s)]])) :: h) := fun m hm => refRight m _ (H0.good' hm) N _ _ _ (svV s) hs
  have s1 := S.len
  have s2 := S.idx
  have s3 := S.okD
  unfold Lev.rawEval
  cases hb : Lev.right ⟨N, s.el⟩ with
  | false =>
    rw [hb] at c0
    rw [if_neg (by decide)]
    rw [f46_eq]; unfold c46; rw [callFn_eq (by rfl)]
    simp (disch := first | assumption | omega | (simp (disch := first | assumption | omega) only [sB, Nat.reduceAdd, Nat.reduceLT, Nat.reduceLeDiff, Nat.reduceEqDiff, Nat.reduceMul, ↓reduceIte]; done) | fail) only [sA, ↓reduceIte, Nat.reduceLT, Nat.reduceEqDiff, Nat.reduceAdd, Nat.reduceLeDiff, c0, s3]
  | true =>
    rw [hb] at c0
    rw [if_pos rfl]
    obtain ⟨hN, h64, hV⟩ := right_iff.1 hb
    replace h64 : s.el.length ≤ 64 := h64
    replace hN : 0 ≤ N ∧ N ≤ 1000 := hN
    replace hV : ∀ p, p ∈ s.el → (0 ≤ p.1 ∧ p.1 ≤ 1000) ∧ 0 ≤ p.2 ∧ p.2 ≤ 1000 := hV
    rw [f46_eq]; unfold c46; rw [callFn_eq (by rfl)]
    simp (disch := first | assumption | omega | (simp (disch := first | assumption | omega) only [sB, Nat.reduceAdd, Nat.reduceLT, Nat.reduceLeDiff, Nat.reduceEqDiff, Nat.reduceMul, ↓reduceIte]; done) | fail) only [sA, ↓reduceIte, Nat.reduceLT, Nat.reduceEqDiff, Nat.reduceAdd, Nat.reduceLeDiff, c0, s3]
    generalize hr : LX (cFk kS Go.Proofs.Try.prog) (.loop l46_0) _ _ _ = r
    obtain ⟨x, e2, n2, h2, rfl, rfl, H2, g6⟩ := loop_up hr s.el.length
      (fun i e n' h' => Hp n h n' h' ∧ n + 1 ≤ n' ∧ h' = (n, (Ob.row 2 [.agg [.int .i64 (N), slD 2 encV (s)]])) :: h ∧ get (po 1) e = d ∧ get (po 2) e = .ptr n 0 0 ∧ get (po 6) e = .int .i64 (Lev.raw ⟨N, s.el.take i⟩ v) ∧ get (po 7) e = .int .i64 (i : Nat))
      (fun x e n' h' => x = .exit 0 ∧ Hp n h n' h' ∧ get (po 6) e = .int .i64 (Lev.raw ⟨N, s.el⟩ v))
      (by
        rintro e n' h' ⟨H, p1, rfl, g1, g2, g6, g7⟩
        rw [List.take_length] at g6
        unfold l46_0
        simp (disch := first | assumption | omega | (simp (disch := first | assumption | omega) only [sB, Nat.reduceAdd, Nat.reduceLT, Nat.reduceLeDiff, Nat.reduceEqDiff, Nat.reduceMul, ↓reduceIte]; done) | fail) only [sA, ↓reduceIte, Nat.reduceLT, Nat.reduceEqDiff, Nat.reduceAdd, Nat.reduceLeDiff, g2, g7]
        exact ⟨_, _, _, _, rfl, by simp, rfl, H.mono (by omega), by simp (disch := first | assumption | omega | (simp (disch := first | assumption | omega) only [sB, Nat.reduceAdd, Nat.reduceLT, Nat.reduceLeDiff, Nat.reduceEqDiff, Nat.reduceMul, ↓reduceIte]; done) | fail) only [sA, ↓reduceIte, Nat.reduceLT, Nat.reduceEqDiff, Nat.reduceAdd, Nat.reduceLeDiff, g6]⟩)
      (by
        rintro i e n' h' hi ⟨H, p1, rfl, g1, g2, g6, g7⟩
        have hn := H.le
        have s4 := S.ld ((n, (Ob.row 2 [.agg [.int .i64 (N), slD 2 encV (s)]])) :: h) (fun q hq => getO_tl (by omega))
        have hp := hV s.el[i] (List.getElem_mem hi)
        have hsn := raw_snoc N (s.el.take i) s.el[i] v
        rw [← take_snoc hi] at hsn
        generalize hW : s.el[i] = W at hp hsn
        obtain ⟨va, vb⟩ := W
        obtain ⟨vn, rfl⟩ : ∃ vn : Nat, va = (vn : Int) := Int.eq_ofNat_of_zero_le hp.1.1
        replace hsn : Lev.raw ⟨N, s.el.take (i + 1)⟩ v = max (Lev.raw ⟨N, s.el.take i⟩ v) (wr .i64 (rv v (vn : Int) + vb)) := hsn
        replace hp : (0 ≤ (vn : Int) ∧ (vn : Int) ≤ 1000) ∧ 0 ≤ vb ∧ vb ≤ 1000 := hp
        generalize Lev.raw ⟨N, s.el.take i⟩ v = A at g6 hsn
        have hadd : ∀ a : Int, binD .add (.int .i64 a) (.int .i64 vb) = .int .i64 (wr .i64 (a + vb)) := fun a => rfl
        unfold l46_0
        by_cases a1 : vn < v.length
        · rw [rv_in a1] at hsn
          by_cases a2 : v[vn] > 0
          · rw [show max 0 v[vn] = v[vn] by omega] at hsn
            have hadd2 := hadd v[vn]
            generalize wr .i64 (v[vn] + vb) = T at hadd2 hsn
            by_cases a3 : T > A
            · rw [show max A T = T by omega] at hsn
              simp (disch := first | assumption | omega | (simp (disch := first | assumption | omega) only [sB, Nat.reduceAdd, Nat.reduceLT, Nat.reduceLeDiff, Nat.reduceEqDiff, Nat.reduceMul, ↓reduceIte]; done) | fail) only [sA, ↓reduceIte, Nat.reduceLT, Nat.reduceEqDiff, Nat.reduceAdd, Nat.reduceLeDiff, g1, g2, g6, g7, hW, encV, s1, s2, s3, s4, a2, a3, hadd2]
              exact ⟨_, _, _, _, rfl, .inl ⟨rfl, H.mono (by omega), by omega, rfl, by simp (disch := first | assumption | omega | (simp (disch := first | assumption | omega) only [sB, Nat.reduceAdd, Nat.reduceLT, Nat.reduceLeDiff, Nat.reduceEqDiff, Nat.reduceMul, ↓reduceIte]; done) | fail) only [sA, ↓reduceIte, Nat.reduceLT, Nat.reduceEqDiff, Nat.reduceAdd, Nat.reduceLeDiff, g1], by simp (disch := first | assumption | omega | (simp (disch := first | assumption | omega) only [sB, Nat.reduceAdd, Nat.reduceLT, Nat.reduceLeDiff, Nat.reduceEqDiff, Nat.reduceMul, ↓reduceIte]; done) | fail) only [sA, ↓reduceIte, Nat.reduceLT, Nat.reduceEqDiff, Nat.reduceAdd, Nat.reduceLeDiff, g2], by rw [hsn]; simp (disch := first | assumption | omega | (simp (disch := first | assumption | omega) only [sB, Nat.reduceAdd, Nat.reduceLT, Nat.reduceLeDiff, Nat.reduceEqDiff, Nat.reduceMul, ↓reduceIte]; done) | fail) only [sA, ↓reduceIte, Nat.reduceLT, Nat.reduceEqDiff, Nat.reduceAdd, Nat.reduceLeDiff], by simp (disch := first | assumption | omega | (simp (disch := first | assumption | omega) only [sB, Nat.reduceAdd, Nat.reduceLT, Nat.reduceLeDiff, Nat.reduceEqDiff, Nat.reduceMul, ↓reduceIte]; done) | fail) only [sA, ↓reduceIte, Nat.reduceLT, Nat.reduceEqDiff, Nat.reduceAdd, Nat.reduceLeDiff]⟩⟩
            · rw [show max A T = A by omega] at hsn
              simp (disch := first | assumption | omega | (simp (disch := first | assumption | omega) only [sB, Nat.reduceAdd, Nat.reduceLT, Nat.reduceLeDiff, Nat.reduceEqDiff, Nat.reduceMul, ↓reduceIte]; done) | fail) only [sA, ↓reduceIte, Nat.reduceLT, Nat.reduceEqDiff, Nat.reduceAdd, Nat.reduceLeDiff, g1, g2, g6, g7, hW, encV, s1, s2, s3, s4, a2, a3, hadd2]
              exact ⟨_, _, _, _, rfl, .inl ⟨rfl, H.mono (by omega), by omega, rfl, by simp (disch := first | assumption | omega | (simp (disch := first | assumption | omega) only [sB, Nat.reduceAdd, Nat.reduceLT, Nat.reduceLeDiff, Nat.reduceEqDiff, Nat.reduceMul, ↓reduceIte]; done) | fail) only [sA, ↓reduceIte, Nat.reduceLT, Nat.reduceEqDiff, Nat.reduceAdd, Nat.reduceLeDiff, g1], by simp (disch := first | assumption | omega | (simp (disch := first | assumption | omega) only [sB, Nat.reduceAdd, Nat.reduceLT, Nat.reduceLeDiff, Nat.reduceEqDiff, Nat.reduceMul, ↓reduceIte]; done) | fail) only [sA, ↓reduceIte, Nat.reduceLT, Nat.reduceEqDiff, Nat.reduceAdd, Nat.reduceLeDiff, g2], by rw [hsn]; simp (disch := first | assumption | omega | (simp (disch := first | assumption | omega) only [sB, Nat.reduceAdd, Nat.reduceLT, Nat.reduceLeDiff, Nat.reduceEqDiff, Nat.reduceMul, ↓reduceIte]; done) | fail) only [sA, ↓reduceIte, Nat.reduceLT, Nat.reduceEqDiff, Nat.reduceAdd, Nat.reduceLeDiff, g6], by simp (disch := first | assumption | omega | (simp (disch := first | assumption | omega) only [sB, Nat.reduceAdd, Nat.reduceLT, Nat.reduceLeDiff, Nat.reduceEqDiff, Nat.reduceMul, ↓reduceIte]; done) | fail) only [sA, ↓reduceIte, Nat.reduceLT, Nat.reduceEqDiff, Nat.reduceAdd, Nat.reduceLeDiff]⟩⟩
          · rw [show max 0 v[vn] = 0 by omega, wr_in (by omega) (by omega)] at hsn
            by_cases a3 : 0 + vb > A
            · rw [show max A (0 + vb) = 0 + vb by omega] at hsn
              simp (disch := first | assumption | omega | (simp (disch := first | assumption | omega) only [sB, Nat.reduceAdd, Nat.reduceLT, Nat.reduceLeDiff, Nat.reduceEqDiff, Nat.reduceMul, ↓reduceIte]; done) | fail) only [sA, ↓reduceIte, Nat.reduceLT, Nat.reduceEqDiff, Nat.reduceAdd, Nat.reduceLeDiff, g1, g2, g6, g7, hW, encV, s1, s2, s3, s4, a2, a3]
              exact ⟨_, _, _, _, rfl, .inl ⟨rfl, H.mono (by omega), by omega, rfl, by simp (disch := first | assumption | omega | (simp (disch := first | assumption | omega) only [sB, Nat.reduceAdd, Nat.reduceLT, Nat.reduceLeDiff, Nat.reduceEqDiff, Nat.reduceMul, ↓reduceIte]; done) | fail) only [sA, ↓reduceIte, Nat.reduceLT, Nat.reduceEqDiff, Nat.reduceAdd, Nat.reduceLeDiff, g1], by simp (disch := first | assumption | omega | (simp (disch := first | assumption | omega) only [sB, Nat.reduceAdd, Nat.reduceLT, Nat.reduceLeDiff, Nat.reduceEqDiff, Nat.reduceMul, ↓reduceIte]; done) | fail) only [sA, ↓reduceIte, Nat.reduceLT, Nat.reduceEqDiff, Nat.reduceAdd, Nat.reduceLeDiff, g2], by rw [hsn]; simp (disch := first | assumption | omega | (simp (disch := first | assumption | omega) only [sB, Nat.reduceAdd, Nat.reduceLT, Nat.reduceLeDiff, Nat.reduceEqDiff, Nat.reduceMul, ↓reduceIte]; done) | fail) only [sA, ↓reduceIte, Nat.reduceLT, Nat.reduceEqDiff, Nat.reduceAdd, Nat.reduceLeDiff], by simp (disch := first | assumption | omega | (simp (disch := first | assumption | omega) only [sB, Nat.reduceAdd, Nat.reduceLT, Nat.reduceLeDiff, Nat.reduceEqDiff, Nat.reduceMul, ↓reduceIte]; done) | fail) only [sA, ↓reduceIte, Nat.reduceLT, Nat.reduceEqDiff, Nat.reduceAdd, Nat.reduceLeDiff]⟩⟩
            · rw [show max A (0 + vb) = A by omega] at hsn
              simp (disch := first | assumption | omega | (simp (disch := first | assumption | omega) only [sB, Nat.reduceAdd, Nat.reduceLT, Nat.reduceLeDiff, Nat.reduceEqDiff, Nat.reduceMul, ↓reduceIte]; done) | fail) only [sA, ↓reduceIte, Nat.reduceLT, Nat.reduceEqDiff, Nat.reduceAdd, Nat.reduceLeDiff, g1, g2, g6, g7, hW, encV, s1, s2, s3, s4, a2, a3]
              exact ⟨_, _, _, _, rfl, .inl ⟨rfl, H.mono (by omega), by omega, rfl, by simp (disch := first | assumption | omega | (simp (disch := first | assumption | omega) only [sB, Nat.reduceAdd, Nat.reduceLT, Nat.reduceLeDiff, Nat.reduceEqDiff, Nat.reduceMul, ↓reduceIte]; done) | fail) only [sA, ↓reduceIte, Nat.reduceLT, Nat.reduceEqDiff, Nat.reduceAdd, Nat.reduceLeDiff, g1], by simp (disch := first | assumption | omega | (simp (disch := first | assumption | omega) only [sB, Nat.reduceAdd, Nat.reduceLT, Nat.reduceLeDiff, Nat.reduceEqDiff, Nat.reduceMul, ↓reduceIte]; done) | fail) only [sA, ↓reduceIte, Nat.reduceLT, Nat.reduceEqDiff, Nat.reduceAdd, Nat.reduceLeDiff, g2], by rw [hsn]; simp (disch := first | assumption | omega | (simp (disch := first | assumption | omega) only [sB, Nat.reduceAdd, Nat.reduceLT, Nat.reduceLeDiff, Nat.reduceEqDiff, Nat.reduceMul, ↓reduceIte]; done) | fail) only [sA, ↓reduceIte, Nat.reduceLT, Nat.reduceEqDiff, Nat.reduceAdd, Nat.reduceLeDiff, g6], by simp (disch := first | assumption | omega | (simp (disch := first | assumption | omega) only [sB, Nat.reduceAdd, Nat.reduceLT, Nat.reduceLeDiff, Nat.reduceEqDiff, Nat.reduceMul, ↓reduceIte]; done) | fail) only [sA, ↓reduceIte, Nat.reduceLT, Nat.reduceEqDiff, Nat.reduceAdd, Nat.reduceLeDiff]⟩⟩
        · rw [rv_out a1, wr_in (by omega) (by omega)] at hsn
          by_cases a3 : 0 + vb > A
          · rw [show max A (0 + vb) = 0 + vb by omega] at hsn
            simp (disch := first | assumption | omega | (simp (disch := first | assumption | omega) only [sB, Nat.reduceAdd, Nat.reduceLT, Nat.reduceLeDiff, Nat.reduceEqDiff, Nat.reduceMul, ↓reduceIte]; done) | fail) only [sA, ↓reduceIte, Nat.reduceLT, Nat.reduceEqDiff, Nat.reduceAdd, Nat.reduceLeDiff, g1, g2, g6, g7, hW, encV, s1, s3, a3]
            exact ⟨_, _, _, _, rfl, .inl ⟨rfl, H.mono (by omega), by omega, rfl, by simp (disch := first | assumption | omega | (simp (disch := first | assumption | omega) only [sB, Nat.reduceAdd, Nat.reduceLT, Nat.reduceLeDiff, Nat.reduceEqDiff, Nat.reduceMul, ↓reduceIte]; done) | fail) only [sA, ↓reduceIte, Nat.reduceLT, Nat.reduceEqDiff, Nat.reduceAdd, Nat.reduceLeDiff, g1], by simp (disch := first | assumption | omega | (simp (disch := first | assumption | omega) only [sB, Nat.reduceAdd, Nat.reduceLT, Nat.reduceLeDiff, Nat.reduceEqDiff, Nat.reduceMul, ↓reduceIte]; done) | fail) only [sA, ↓reduceIte, Nat.reduceLT, Nat.reduceEqDiff, Nat.reduceAdd, Nat.reduceLeDiff, g2], by rw [hsn]; simp (disch := first | assumption | omega | (simp (disch := first | assumption | omega) only [sB, Nat.reduceAdd, Nat.reduceLT, Nat.reduceLeDiff, Nat.reduceEqDiff, Nat.reduceMul, ↓reduceIte]; done) | fail) only [sA, ↓reduceIte, Nat.reduceLT, Nat.reduceEqDiff, Nat.reduceAdd, Nat.reduceLeDiff], by simp (disch := first | assumption | omega | (simp (disch := first | assumption | omega) only [sB, Nat.reduceAdd, Nat.reduceLT, Nat.reduceLeDiff, Nat.reduceEqDiff, Nat.reduceMul, ↓reduceIte]; done) | fail) only [sA, ↓reduceIte, Nat.reduceLT, Nat.reduceEqDiff, Nat.reduceAdd, Nat.reduceLeDiff]⟩⟩
          · rw [show max A (0 + vb) = A by omega] at hsn
            simp (disch := first | assumption | omega | (simp (disch := first | assumption | omega) only [sB, Nat.reduceAdd, Nat.reduceLT, Nat.reduceLeDiff, Nat.reduceEqDiff, Nat.reduceMul, ↓reduceIte]; done) | fail) only [sA, ↓reduceIte, Nat.reduceLT, Nat.reduceEqDiff, Nat.reduceAdd, Nat.reduceLeDiff, g1, g2, g6, g7, hW, encV, s1, s3, a3]
            exact ⟨_, _, _, _, rfl, .inl ⟨rfl, H.mono (by omega), by omega, rfl, by simp (disch := first | assumption | omega | (simp (disch := first | assumption | omega) only [sB, Nat.reduceAdd, Nat.reduceLT, Nat.reduceLeDiff, Nat.reduceEqDiff, Nat.reduceMul, ↓reduceIte]; done) | fail) only [sA, ↓reduceIte, Nat.reduceLT, Nat.reduceEqDiff, Nat.reduceAdd, Nat.reduceLeDiff, g1], by simp (disch := first | assumption | omega | (simp (disch := first | assumption | omega) only [sB, Nat.reduceAdd, Nat.reduceLT, Nat.reduceLeDiff, Nat.reduceEqDiff, Nat.reduceMul, ↓reduceIte]; done) | fail) only [sA, ↓reduceIte, Nat.reduceLT, Nat.reduceEqDiff, Nat.reduceAdd, Nat.reduceLeDiff, g2], by rw [hsn]; simp (disch := first | assumption | omega | (simp (disch := first | assumption | omega) only [sB, Nat.reduceAdd, Nat.reduceLT, Nat.reduceLeDiff, Nat.reduceEqDiff, Nat.reduceMul, ↓reduceIte]; done) | fail) only [sA, ↓reduceIte, Nat.reduceLT, Nat.reduceEqDiff, Nat.reduceAdd, Nat.reduceLeDiff, g6], by simp (disch := first | assumption | omega | (simp (disch := first | assumption | omega) only [sB, Nat.reduceAdd, Nat.reduceLT, Nat.reduceLeDiff, Nat.reduceEqDiff, Nat.reduceMul, ↓reduceIte]; done) | fail) only [sA, ↓reduceIte, Nat.reduceLT, Nat.reduceEqDiff, Nat.reduceAdd, Nat.reduceLeDiff]⟩⟩)
      ⟨H0.mono (by omega), by omega, by simp (disch := first | assumption | omega | (simp (disch := first | assumption | omega) only [sB, Nat.reduceAdd, Nat.reduceLT, Nat.reduceLeDiff, Nat.reduceEqDiff, Nat.reduceMul, ↓reduceIte]; done) | fail) only [sA, ↓reduceIte, Nat.reduceLT, Nat.reduceEqDiff, Nat.reduceAdd, Nat.reduceLeDiff], by simp (disch := first | assumption | omega | (simp (disch := first | assumption | omega) only [sB, Nat.reduceAdd, Nat.reduceLT, Nat.reduceLeDiff, Nat.reduceEqDiff, Nat.reduceMul, ↓reduceIte]; done) | fail) only [sA, ↓reduceIte, Nat.reduceLT, Nat.reduceEqDiff, Nat.reduceAdd, Nat.reduceLeDiff], by simp (disch := first | assumption | omega | (simp (disch := first | assumption | omega) only [sB, Nat.reduceAdd, Nat.reduceLT, Nat.reduceLeDiff, Nat.reduceEqDiff, Nat.reduceMul, ↓reduceIte]; done) | fail) only [sA, ↓reduceIte, Nat.reduceLT, Nat.reduceEqDiff, Nat.reduceAdd, Nat.reduceLeDiff], by simp (disch := first | assumption | omega | (simp (disch := first | assumption | omega) only [sB, Nat.reduceAdd, Nat.reduceLT, Nat.reduceLeDiff, Nat.reduceEqDiff, Nat.reduceMul, ↓reduceIte]; done) | fail) only [sA, ↓reduceIte, Nat.reduceLT, Nat.reduceEqDiff, Nat.reduceAdd, Nat.reduceLeDiff]; rfl, by simp (disch := first | assumption | omega | (simp (disch := first | assumption | omega) only [sB, Nat.reduceAdd, Nat.reduceLT, Nat.reduceLeDiff, Nat.reduceEqDiff, Nat.reduceMul, ↓reduceIte]; done) | fail) only [sA, ↓reduceIte, Nat.reduceLT, Nat.reduceEqDiff, Nat.reduceAdd, Nat.reduceLeDiff]⟩
    simp (disch := first | assumption | omega | (simp (disch := first | assumption | omega) only [sB, Nat.reduceAdd, Nat.reduceLT, Nat.reduceLeDiff, Nat.reduceEqDiff, Nat.reduceMul, ↓reduceIte]; done) | fail) only [sA, ↓reduceIte, Nat.reduceLT, Nat.reduceEqDiff, Nat.reduceAdd, Nat.reduceLeDiff, g6, finish_flat (d := .int .i64 (Lev.raw ⟨N, s.el⟩ v)) rfl (H2.mono (show n2 ≤ n2 + 2 by omega))]

/-- goodness, as one word -/
def Gd (m : Nat) (h : Hps) : Prop := ∀ k, m ≤ k → GoodAt k h
theorem gd_nil {m : Nat} : Gd m [] = True := eqOf (propext ⟨fun _ => trivial, fun _ _ _ => good_nil⟩)
theorem gd_lev {m r k : Nat} {N : Int} {s : Sl LV} {t : Hps} (h : r < m) : Gd m ((r, .row k [(D.agg [.int .i64 (N), slD 2 encV (s)])]) :: t) = Gd m t := propext ⟨fun H k hk => (good_cons.1 (H k hk)).2.2, fun H k hk => good_cons.2 ⟨by omega, lowO_one (low_flat (flatL ⟨N, s⟩)), H k hk⟩⟩
theorem gd_zero {m r k : Nat} {t : Hps} (h : r < m) : Gd m ((r, .row k [.agg [.int .i64 0, .nils]]) :: t) = Gd m t := propext ⟨fun H k hk => (good_cons.1 (H k hk)).2.2, fun H k hk => good_cons.2 ⟨by omega, lowO_one (low_flat rfl), H k hk⟩⟩
theorem keys_gd {m : Nat} {h : Hps} (hg : Gd m h) : keysFrom m h = [] := keys_low (hg m (Nat.le_refl _))
end Go.Proofs.Ytjagmfgjlfkmgaa
