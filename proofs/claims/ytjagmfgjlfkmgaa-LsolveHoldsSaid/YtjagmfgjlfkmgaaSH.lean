/- LsolveHolds: what is told holds, and no number of it may be one less. No condition. -/
import Derived.Test.YtjagmfgjlfkmgaaSS2
import Derived.Test.YtjagmfgjlfkmgaaSTS
set_option linter.unusedSimpArgs false
set_option linter.unusedVariables false
namespace Go.Proofs.Ytjagmfgjlfkmgaa
open Go Go.ChangeShapes Go.WideShapes Go.ChangeAt Go.RowKit

theorem runP_low {n : Nat} {l : List Lm} (hok : LimOk n l) {k : Nat} {v : List Int} {r : Option (List Int)} (h : RunP n l k v r) : Nums n v → (∀ w, Feas n l w → LeV v w) → ∀ L, r = some L → Least n l L := by
  induction h with
  | err _ => intro _ _ L e; cases e
  | @done k v w h =>
    intro hn hb L e
    cases e
    have h1 := roundP_some h
    have h2 := (steps_flag h1).2 rfl
    cases h2.1
    exact ⟨⟨hn.1, fun i => (hn.2 i).1, h2.2⟩, hn, hb⟩
  | @more k v w r h _ ih =>
    intro hn hb L e
    have h1 := roundP_some h
    exact ih (steps_nums h1 hok hn).1 (fun z hz => steps_below hok hz h1 (fun _ h => h) hn (hb z hz)) L e
/-- does a limit hold? -/
def okM (v : List Int) (x : SLim) : Bool := decide (lval x.a.lev v ≤ lval x.b.lev v)
theorem okM_lm {v : List Int} (hv : ∀ i, 0 ≤ gv v i) {x : SLim} (ha : x.a.lev.right = true) (hb : x.b.lev.right = true) (hc : chk2 x = true) :
    okM v x = true ↔ match (lm x).on with
      | none => lval (lm x).a v ≤ (lm x).less
      | some y => lval (lm x).a v ≤ gv v y + (lm x).less := by
  have pos : ∀ i, 0 ≤ rv v i := fun i => rv_pos v i
  have na : 0 ≤ x.a.lev.n := (right_iff.1 ha).1.1
  have nb : 0 ≤ x.b.lev.n := (right_iff.1 hb).1.1
  have e1 : lval x.a.lev v = lval x.a.lev.norm v := (val_norm pos na).symm
  have e2 : lval x.b.lev v = lval x.b.lev.norm v := (val_norm pos nb).symm
  have hnb := right_iff.1 (right_norm hb)
  unfold okM chk2 at *
  rw [decide_eq_true_iff] at hc ⊢
  rw [e1, e2]
  unfold lm
  generalize x.b.lev.norm = M at hc hnb ⊢
  obtain ⟨N, V⟩ := M
  cases V with
  | nil => exact Iff.rfl
  | cons p t =>
    rcases hc with hc | ⟨hc, hN⟩
    · cases hc
    · cases t with
      | cons q t => simp at hc
      | nil =>
        replace hN : N = 0 := hN
        subst hN
        have hp := hnb.2.2 p (by simp)
        have h1 := hv p.1.toNat
        have e3 : lval ⟨0, [p]⟩ v = gv v p.1.toNat + p.2 := by
          show max 0 (rv v p.1 + p.2) = _
          rw [rv_gv hv]
          omega
        rw [e3]
/-- all limits hold -/
theorem okM_all {n : Nat} {l : List SLim} {v : List Int} (hs : Seen n l) (hl : v.length = n) (hv : ∀ i, 0 ≤ gv v i) : l.all (okM v) = true ↔ Feas n (l.map lm) v ∧ NumsOk (l.map lm) v := by
  rw [List.all_eq_true]
  constructor
  · intro h
    refine ⟨⟨hl, hv, fun z hz y hy => ?_⟩, fun z hz hno => ?_⟩
    · obtain ⟨x, hx, rfl⟩ := List.mem_map.1 hz
      obtain ⟨h1, h2, _, h4⟩ := hs x hx
      have := (okM_lm hv h1 h2 h4).1 (h x hx)
      rw [hy] at this
      exact this
    · obtain ⟨x, hx, rfl⟩ := List.mem_map.1 hz
      obtain ⟨h1, h2, _, h4⟩ := hs x hx
      have := (okM_lm hv h1 h2 h4).1 (h x hx)
      rw [hno] at this
      exact this
  · rintro ⟨hf, hno⟩ x hx
    obtain ⟨h1, h2, _, h4⟩ := hs x hx
    refine (okM_lm hv h1 h2 h4).2 ?_
    cases e : (lm x).on with
    | none => exact hno (lm x) (List.mem_map.2 ⟨x, hx, rfl⟩) e
    | some y => exact hf.2.2 (lm x) (List.mem_map.2 ⟨x, hx, rfl⟩) y e
theorem less_bad {n k : Nat} {l : List SLim} {w : List Int} (hs : Seen n l) (hw : Least n (l.map lm) w) (hk : k < w.length) (h0 : gv w k ≠ 0) : l.all (okM (w.set k (gv w k - 1))) = false := by
  have hpos : ∀ i, 0 ≤ gv (w.set k (gv w k - 1)) i := fun i => by
    rw [gv_set hk]
    have h1 := (hw.2.1.2 i).1
    have h2 := (hw.2.1.2 k).1
    split <;> omega
  cases e : l.all (okM (w.set k (gv w k - 1))) with
  | false => rfl
  | true =>
    have h1 := ((okM_all hs (by rw [List.length_set]; exact hw.2.1.1) hpos).1 e).1
    have h2 := hw.2.2 _ h1 k
    rw [gv_set hk, if_pos rfl] at h2
    omega

/-- a level that is handed in -/
theorem lvar_arg {H : Type} (f : Nat) (x : DataW H) (h : Fit Go.Proofs.Try.prog f 62 x) : ∃ p : LV, dVal Go.Proofs.Try.prog f 62 x = encV p ∧ True := by
  obtain ⟨g, a, b, rfl, rfl, h1, h2, h4⟩ := struct2 Go.Proofs.Try.underlying62 h
  obtain ⟨i, e1, _⟩ := int_arg Go.Proofs.Try.underlying3 h1
  obtain ⟨j, e2, _⟩ := int_arg Go.Proofs.Try.underlying3 h2
  refine ⟨(i, j), ?_, trivial⟩
  rw [h4]
  show D.agg (cells (dVal _ g 3 a) ++ cells (dVal _ g 3 b)) = _
  rw [e1, e2]
  rfl
theorem lev_arg {H : Type} (f : Nat) (x : DataW H) (h : Fit Go.Proofs.Try.prog f 43 x) : ∃ l : SLev, dVal Go.Proofs.Try.prog f 43 x = encL l := by
  obtain ⟨g, a, b, rfl, rfl, h1, h2, h4⟩ := struct2 Go.Proofs.Try.underlying43 h
  obtain ⟨i, e1, _⟩ := int_arg Go.Proofs.Try.underlying3 h1
  obtain ⟨s, e2, _, _⟩ := slice_arg (k := 2) (enc := encV) (R := fun _ _ => True) Go.Proofs.Try.underlying41 (by kernel_rfl) h2 (fun g' y _ hy => lvar_arg g' y hy)
  refine ⟨⟨i, s⟩, ?_⟩
  rw [h4]
  show D.agg (cells (dVal _ g 3 a) ++ cells (dVal _ g 41 b)) = _
  rw [e1, e2, cells_int, cells_slD]
  rfl
/-- a limit that is handed in -/
theorem lim_arg {H : Type} (f : Nat) (x : DataW H) (h : Fit Go.Proofs.Try.prog f 45 x) : ∃ l : SLim, dVal Go.Proofs.Try.prog f 45 x = encM l := by
  obtain ⟨g, a, b, rfl, rfl, h1, h2, h4⟩ := struct2 Go.Proofs.Try.underlying45 h
  obtain ⟨l1, e1⟩ := lev_arg _ _ h1
  obtain ⟨l2, e2⟩ := lev_arg _ _ h2
  refine ⟨⟨l1, l2⟩, ?_⟩
  rw [h4]
  show D.agg (cells (dVal _ g 43 a) ++ cells (dVal _ g 43 b)) = _
  rw [e1, e2]
  rfl
theorem hAlive : callFn (LX (cFk kS Go.Proofs.Try.prog)) 2 [] [] ((cFk kS Go.Proofs.Try.prog) 27) = .ok (.bool true) 2 [] := by
  have h : callFn (exec (tS.look (cFk kS Go.Proofs.Try.prog)) 1000) 2 [] [] (tS.look (cFk kS Go.Proofs.Try.prog) 27) = .ok (.bool true) 2 [] := by kernel_rfl
  rw [Tb.look_eq tS_ok] at h
  exact callFn_LX _ h
theorem hNum {m : Nat} {h : Hps} (hg : ∀ k, m ≤ k → GoodAt k h) (a : Int) : callFn (LX (cFk kS Go.Proofs.Try.prog)) m h [.int .i64 a] (cFk kS Go.Proofs.Try.prog 30) = .ok (.int .i64 a) m h := by
  have hgn := hg m (Nat.le_refl _)
  rw [f30_eq]; unfold c30; rw [callFn_eq (by rfl)]
  simp (disch := first | assumption | omega | (simp (disch := first | assumption | omega) only [sB, Nat.reduceAdd, Nat.reduceLT, Nat.reduceLeDiff, Nat.reduceEqDiff, Nat.reduceMul, ↓reduceIte]; done) | fail) only [sA, ↓reduceIte, Nat.reduceLT, Nat.reduceEqDiff, Nat.reduceAdd, Nat.reduceLeDiff]
theorem leak_all (h : Hps) : Go.Proofs.Ytjagmfgjlfkmgaa.leak 0 h = false := by
  induction h with
  | nil => rfl
  | cons p t ih => rw [show p = (p.1, p.2) from rfl, leak_new (Nat.zero_le _)]; exact ih
theorem evalR {n na q : Nat} {h : Hps} {v : List Int} {N : Int} {s : Sl LV} (hg : ∀ k, n ≤ k → GoodAt k h) (hb : getO h q = .row 1 (v.map encN)) (hv : Nums na v) (hna : na ≤ 1000) (hq : q < n) (hr : Lev.right ⟨N, s.el⟩ = true) :
    callFn (LX (cFk kS Go.Proofs.Try.prog)) n h [(D.agg [.int .i64 (N), slD 2 encV (s)]), .ms 1 q 0 na false] (cFk kS Go.Proofs.Try.prog 46) = .ok (.int .i64 (lval ⟨N, s.el⟩ v)) n h := by
  have hlow := nums_low hv
  have h64 : s.el.length ≤ 64 := (right_iff.1 hr).2.1
  have := refEvalS n h hg N s (by omega) (.ms 1 q 0 na false) v _ (row_si hb hv.1 hq) (by rw [hv.1]; omega)
  rw [raw_low (fun x hx => by have := hlow x hx; omega), eval_right hr] at this
  exact this
/-- the same in a draw -/
theorem evalRD {m na q : Nat} {h : Hps} {v : List Int} {N : Int} {s : Sl LV} (hb : getO h q = .row 1 (v.map encN)) (hv : Nums na v) (hna : na ≤ 1000) (hq : q ≤ m) (hr : Lev.right ⟨N, s.el⟩ = true) :
    subC (callX (cFk kS Go.Proofs.Try.prog) (LX (cFk kS Go.Proofs.Try.prog))) (reachC h [(D.agg [.int .i64 (N), slD 2 encV (s)]), .ms 1 q 0 na false] (.fn 46 [] [])) m h (.fn 46 [] []) [(D.agg [.int .i64 (N), slD 2 encV (s)]), .ms 1 q 0 na false] = .ok (.int .i64 (lval ⟨N, s.el⟩ v)) (m + 1) ((q, .row 1 (v.map encN)) :: delO h q) :=
  sub_row hb hq (by
    rw [callX_fn]
    exact evalR (fun k hk => good_cons.2 ⟨by omega, row_low v k, good_nil⟩) getO_hd hv hna (by omega) hr)

set_option maxHeartbeats 8000000 in
theorem hdHolds {lo b n q na : Nat} {h : Hps} {v : List Int} (s : Sl SLim) (H : Wh lo b n h) (hq : q < n) (hb : getO h q = .row 1 (v.map encN)) (hv : Nums na v) (hna : na ≤ 1000) (hall : ∀ x, x ∈ s.el → x.a.lev.right = true ∧ x.b.lev.right = true) (hl : s.el.length ≤ 2000) :
    ∃ h', callFn (LX (cFk kS Go.Proofs.Try.prog)) n h [slD 4 encM s, .ms 1 q 0 na false] (cFk kS Go.Proofs.Try.prog 31) = .ok (.bool (s.el.all (okM v))) n h' ∧ Wh lo b n h' ∧ getO h' q = .row 1 (v.map encN) := by
  have hbn := H.1
  have hgn := H.good n (Nat.le_refl _)
  rw [f31_eq]; unfold c31; rw [callFn_eq (by rfl)]
  simp (disch := first | assumption | omega | (simp (disch := first | assumption | omega) only [sB, Nat.reduceAdd, Nat.reduceLT, Nat.reduceLeDiff, Nat.reduceEqDiff, Nat.reduceMul, ↓reduceIte]; done) | fail) only [sA, ↓reduceIte, Nat.reduceLT, Nat.reduceEqDiff, Nat.reduceAdd, Nat.reduceLeDiff]
  generalize hr : LX (cFk kS Go.Proofs.Try.prog) (.loop l31_0) _ _ _ = r
  obtain ⟨z, e2, n2, h2, rfl, H2, hq2, hc⟩ := loop_up hr s.el.length
    (fun i e n' g => Wh lo b n' g ∧ n ≤ n' ∧ getO g q = .row 1 (v.map encN) ∧ (s.el.drop i).all (okM v) = s.el.all (okM v) ∧ get (po 0) e = slD 4 encM s ∧ get (po 1) e = .ms 1 q 0 na false ∧ get (po 5) e = .int .i64 (i : Nat))
    (fun z e n' g => Wh lo b n' g ∧ getO g q = .row 1 (v.map encN) ∧ ((z = .exit 0 ∧ s.el.all (okM v) = true) ∨ (z = .ret ∧ s.el.all (okM v) = false ∧ get (po 4) e = .bool false)))
    (by
      rintro e n' g ⟨H, p1, bq, ha, g0, g1, g5⟩
      rw [List.drop_length] at ha
      unfold l31_0
      simp (disch := first | assumption | omega | (simp (disch := first | assumption | omega) only [sB, Nat.reduceAdd, Nat.reduceLT, Nat.reduceLeDiff, Nat.reduceEqDiff, Nat.reduceMul, ↓reduceIte]; done) | fail) only [sA, ↓reduceIte, Nat.reduceLT, Nat.reduceEqDiff, Nat.reduceAdd, Nat.reduceLeDiff, g0, g5]
      exact ⟨_, _, _, _, rfl, by simp, H.mono (by omega), bq, .inl ⟨rfl, ha.symm⟩⟩)
    (by
      rintro i e n' g hi ⟨H, p1, bq, ha, g0, g1, g5⟩
      rw [List.drop_eq_getElem_cons hi, List.all_cons] at ha
      have hx := hall s.el[i] (List.getElem_mem hi)
      generalize hW : s.el[i] = W at hx ha
      obtain ⟨⟨an, av⟩, ⟨bn, bv⟩⟩ := W
      obtain ⟨ra, rb⟩ := hx
      replace ra : Lev.right ⟨an, av.el⟩ = true := ra
      replace rb : Lev.right ⟨bn, bv.el⟩ = true := rb
      have ho : okM v ⟨⟨an, av⟩, ⟨bn, bv⟩⟩ = decide (lval ⟨an, av.el⟩ v ≤ lval ⟨bn, bv.el⟩ v) := rfl
      rw [ho] at ha
      obtain ⟨G, hG⟩ : ∃ G, G = (q, Ob.row 1 (v.map encN)) :: delO g q := ⟨_, rfl⟩
      have bG : getO G q = .row 1 (v.map encN) := by rw [hG]; exact getO_hd
      have hre := fun N s => reach_row (q := 46) (len := na) (N := N) (s := s) bq
      have hsub : ∀ m, n' ≤ m → subC (callX (cFk kS Go.Proofs.Try.prog) (LX (cFk kS Go.Proofs.Try.prog))) [q] m g (.fn 46 [] []) [(D.agg [.int .i64 (an), slD 2 encV (av)]), .ms 1 q 0 na false] = .ok (.int .i64 (lval ⟨an, av.el⟩ v)) (m + 1) G := fun m hm => by
        rw [hG, ← hre an av]
        exact evalRD bq hv hna (by omega) ra
      have WG : ∀ m, n' ≤ m → Wh lo b m G := fun m hm => by rw [hG]; exact (H.mono hm).front (by omega)
      have hsub2 : ∀ m, n' ≤ m → callFn (LX (cFk kS Go.Proofs.Try.prog)) m G [(D.agg [.int .i64 (bn), slD 2 encV (bv)]), .ms 1 q 0 na false] (cFk kS Go.Proofs.Try.prog 46) = .ok (.int .i64 (lval ⟨bn, bv.el⟩ v)) m G := fun m hm => evalR (WG m hm).good bG hv hna (by omega) rb
      have hkeys : ∀ m, n' ≤ m → keysFrom m G = [] := fun m hm => keys_low ((WG m hm).good m (Nat.le_refl _))
      clear hG
      generalize lval ⟨an, av.el⟩ v = X at ha hsub
      generalize lval ⟨bn, bv.el⟩ v = Y at ha hsub2
      unfold l31_0
      by_cases y : X > Y
      · rw [decide_eq_false (by omega), Bool.false_and] at ha
        simp (disch := first | assumption | omega | (simp (disch := first | assumption | omega) only [sB, Nat.reduceAdd, Nat.reduceLT, Nat.reduceLeDiff, Nat.reduceEqDiff, Nat.reduceMul, ↓reduceIte]; done) | fail) only [sA, ↓reduceIte, Nat.reduceLT, Nat.reduceEqDiff, Nat.reduceAdd, Nat.reduceLeDiff, g0, g1, g5, hW, encM, hre, hsub, hsub2, hkeys, bG, y, apartR_cons]
        exact ⟨_, _, _, _, rfl, .inr ⟨by simp, (WG _ (by omega)), bG, .inr ⟨rfl, ha.symm, by simp (disch := first | assumption | omega | (simp (disch := first | assumption | omega) only [sB, Nat.reduceAdd, Nat.reduceLT, Nat.reduceLeDiff, Nat.reduceEqDiff, Nat.reduceMul, ↓reduceIte]; done) | fail) only [sA, ↓reduceIte, Nat.reduceLT, Nat.reduceEqDiff, Nat.reduceAdd, Nat.reduceLeDiff]⟩⟩⟩
      · rw [decide_eq_true (by omega), Bool.true_and] at ha
        simp (disch := first | assumption | omega | (simp (disch := first | assumption | omega) only [sB, Nat.reduceAdd, Nat.reduceLT, Nat.reduceLeDiff, Nat.reduceEqDiff, Nat.reduceMul, ↓reduceIte]; done) | fail) only [sA, ↓reduceIte, Nat.reduceLT, Nat.reduceEqDiff, Nat.reduceAdd, Nat.reduceLeDiff, g0, g1, g5, hW, encM, hre, hsub, hsub2, hkeys, bG, y, apartR_cons]
        exact ⟨_, _, _, _, rfl, .inl ⟨rfl, (WG _ (by omega)), by omega, bG, ha, by simp (disch := first | assumption | omega | (simp (disch := first | assumption | omega) only [sB, Nat.reduceAdd, Nat.reduceLT, Nat.reduceLeDiff, Nat.reduceEqDiff, Nat.reduceMul, ↓reduceIte]; done) | fail) only [sA, ↓reduceIte, Nat.reduceLT, Nat.reduceEqDiff, Nat.reduceAdd, Nat.reduceLeDiff, g0], by simp (disch := first | assumption | omega | (simp (disch := first | assumption | omega) only [sB, Nat.reduceAdd, Nat.reduceLT, Nat.reduceLeDiff, Nat.reduceEqDiff, Nat.reduceMul, ↓reduceIte]; done) | fail) only [sA, ↓reduceIte, Nat.reduceLT, Nat.reduceEqDiff, Nat.reduceAdd, Nat.reduceLeDiff, g1], by simp (disch := first | assumption | omega | (simp (disch := first | assumption | omega) only [sB, Nat.reduceAdd, Nat.reduceLT, Nat.reduceLeDiff, Nat.reduceEqDiff, Nat.reduceMul, ↓reduceIte]; done) | fail) only [sA, ↓reduceIte, Nat.reduceLT, Nat.reduceEqDiff, Nat.reduceAdd, Nat.reduceLeDiff]⟩⟩)
    ⟨H.mono (by omega), by omega, hb, rfl, by simp (disch := first | assumption | omega | (simp (disch := first | assumption | omega) only [sB, Nat.reduceAdd, Nat.reduceLT, Nat.reduceLeDiff, Nat.reduceEqDiff, Nat.reduceMul, ↓reduceIte]; done) | fail) only [sA, ↓reduceIte, Nat.reduceLT, Nat.reduceEqDiff, Nat.reduceAdd, Nat.reduceLeDiff], by simp (disch := first | assumption | omega | (simp (disch := first | assumption | omega) only [sB, Nat.reduceAdd, Nat.reduceLT, Nat.reduceLeDiff, Nat.reduceEqDiff, Nat.reduceMul, ↓reduceIte]; done) | fail) only [sA, ↓reduceIte, Nat.reduceLT, Nat.reduceEqDiff, Nat.reduceAdd, Nat.reduceLeDiff], by simp (disch := first | assumption | omega | (simp (disch := first | assumption | omega) only [sB, Nat.reduceAdd, Nat.reduceLT, Nat.reduceLeDiff, Nat.reduceEqDiff, Nat.reduceMul, ↓reduceIte]; done) | fail) only [sA, ↓reduceIte, Nat.reduceLT, Nat.reduceEqDiff, Nat.reduceAdd, Nat.reduceLeDiff]⟩
  have F4 := fun m (x : Bool) => H2.fin (n0 := n) (by omega) (d := .bool x) rfl m
  rcases hc with ⟨rfl, e⟩ | ⟨rfl, e, g4⟩
  · rw [e]
    simp (disch := first | assumption | omega | (simp (disch := first | assumption | omega) only [sB, Nat.reduceAdd, Nat.reduceLT, Nat.reduceLeDiff, Nat.reduceEqDiff, Nat.reduceMul, ↓reduceIte]; done) | fail) only [sA, ↓reduceIte, Nat.reduceLT, Nat.reduceEqDiff, Nat.reduceAdd, Nat.reduceLeDiff, F4]
    exact ⟨_, rfl, H2.drop (by omega), (getO_dropFrom ..).trans ((if_pos hq).trans hq2)⟩
  · rw [e]
    simp (disch := first | assumption | omega | (simp (disch := first | assumption | omega) only [sB, Nat.reduceAdd, Nat.reduceLT, Nat.reduceLeDiff, Nat.reduceEqDiff, Nat.reduceMul, ↓reduceIte]; done) | fail) only [sA, ↓reduceIte, Nat.reduceLT, Nat.reduceEqDiff, Nat.reduceAdd, Nat.reduceLeDiff, g4, F4]
    exact ⟨_, rfl, H2.drop (by omega), (getO_dropFrom ..).trans ((if_pos hq).trans hq2)⟩

set_option maxHeartbeats 8000000 in
theorem lvSolveK (n : Nat) (h : Hps) (hF : ∀ p, p ∈ h → p.1 < n ∧ ∀ k, lowO k p.2) (a : Int) (d : D) (l : List SLim) (ad : Nat → D) (S : Sv 4 encM n h d l ad) (hl : l.length < 1000000000) :
    ∃ X n' h', callFn (LX (cFk kS Go.Proofs.Try.prog)) n h [.int .i64 a, d] (cFk kS Go.Proofs.Try.prog 28) = .ok X n' h' ∧ (∃ b, Wh n b n' h') ∧
      ((∃ c : Int, c ≠ 0 ∧ X = .tup [.nils, .int .i64 c]) ∨ (limBad a l = none ∧ ∃ r w, RunP a.toNat (l.map lm) 0 (List.replicate a.toNat 0) (some w) ∧ NumsOk (l.map lm) w ∧ X = .tup [.ms 1 r 0 a.toNat false, .int .i64 0] ∧ getO h' r = .row 1 (w.map encN) ∧ r < n')) := by
  have hg : ∀ k, n ≤ k → GoodAt k h := fun k hk p hp => ⟨by have := (hF p hp).1; omega, (hF p hp).2 k⟩
  have hgn := hg n (Nat.le_refl _)
  have s1 := S.len
  have s3 := S.okD
  have W0 : ∀ b, n ≤ b → Wh n b b h := fun b hb => ⟨Nat.le_refl _, fun p hp => ⟨by have := (hF p hp).1; omega, ⟨fun k _ _ => (hF p hp).2 k, fun _ k => (hF p hp).2 k⟩⟩⟩
  have W3 : ∀ b, n + 3 ≤ b → Wh n b b ((n + 2, .row 1 [.int .i64 0]) :: (n + 1, .row 1 [.nils]) :: (n, .row 1 [.int .i64 a]) :: h) := fun b hb => (((W0 b (by omega)).cons (r := n) (m := b) (by omega) (Nat.le_refl _) (tame_flat rfl)).cons (r := n + 1) (m := b) (by omega) (Nat.le_refl _) (tame_flat rfl)).cons (r := n + 2) (m := b) (by omega) (Nat.le_refl _) (tame_flat rfl)
  have bad : ∀ c : Int, Wh n (n + 3) (n + 3) ((n + 2, .row 1 [.int .i64 c]) :: (n + 1, .row 1 [.nils]) :: (n, .row 1 [.int .i64 a]) :: h) := fun c => (((W0 (n + 3) (by omega)).cons (r := n) (m := n + 3) (by omega) (Nat.le_refl _) (tame_flat rfl)).cons (r := n + 1) (m := n + 3) (by omega) (Nat.le_refl _) (tame_flat rfl)).cons (r := n + 2) (m := n + 3) (by omega) (Nat.le_refl _) (tame_flat rfl)
  by_cases h1 : a < 0 ∨ 500 < a ∨ 2000 < l.length
  · rw [f28_eq]; unfold c28; rw [callFn_eqK (by rfl)]
    by_cases y1 : a < 0
    · simp (disch := first | assumption | omega | (simp (disch := first | assumption | omega) only [sB, Nat.reduceAdd, Nat.reduceLT, Nat.reduceLeDiff, Nat.reduceEqDiff, Nat.reduceMul, ↓reduceIte]; done) | fail) only [sA, ↓reduceIte, Nat.reduceLT, Nat.reduceEqDiff, Nat.reduceAdd, Nat.reduceLeDiff, y1]
      exact ⟨_, _, _, rfl, ⟨_, (bad 2).mono (by omega)⟩, .inl ⟨2, by decide, rfl⟩⟩
    · by_cases y2 : a > 500
      · simp (disch := first | assumption | omega | (simp (disch := first | assumption | omega) only [sB, Nat.reduceAdd, Nat.reduceLT, Nat.reduceLeDiff, Nat.reduceEqDiff, Nat.reduceMul, ↓reduceIte]; done) | fail) only [sA, ↓reduceIte, Nat.reduceLT, Nat.reduceEqDiff, Nat.reduceAdd, Nat.reduceLeDiff, y1, y2]
        exact ⟨_, _, _, rfl, ⟨_, (bad 2).mono (by omega)⟩, .inl ⟨2, by decide, rfl⟩⟩
      · have y3 : ((l.length : Nat) : Int) > 2000 := by omega
        simp (disch := first | assumption | omega | (simp (disch := first | assumption | omega) only [sB, Nat.reduceAdd, Nat.reduceLT, Nat.reduceLeDiff, Nat.reduceEqDiff, Nat.reduceMul, ↓reduceIte]; done) | fail) only [sA, ↓reduceIte, Nat.reduceLT, Nat.reduceEqDiff, Nat.reduceAdd, Nat.reduceLeDiff, y1, y2, y3, s1, s3]
        exact ⟨_, _, _, rfl, ⟨_, (bad 2).mono (by omega)⟩, .inl ⟨2, by decide, rfl⟩⟩
  · have y1 : ¬ a < 0 := by omega
    have y2 : ¬ a > 500 := by omega
    have y3 : ¬ ((l.length : Nat) : Int) > 2000 := by omega
    have hl2 : l.length ≤ 2000 := by omega
    have H3 : Hp n h (n + 3) ((n + 2, .row 1 [.int .i64 0]) :: (n + 1, .row 1 [.nils]) :: (n, .row 1 [.int .i64 a]) :: h) := (((Hp.start hg).box (r := n) (m := n + 1) (by omega) (by omega) rfl).box (r := n + 1) (m := n + 2) (by omega) (by omega) rfl).box (r := n + 2) (m := n + 3) (by omega) (by omega) rfl
    have ask := fun m (hm : n + 3 ≤ m) => lvAsk m _ (H3.good' hm) a d l ad (S.mono H3 hm) hl2
    rw [f28_eq]; unfold c28; rw [callFn_eqK (by rfl)]
    simp (disch := first | assumption | omega | (simp (disch := first | assumption | omega) only [sB, Nat.reduceAdd, Nat.reduceLT, Nat.reduceLeDiff, Nat.reduceEqDiff, Nat.reduceMul, ↓reduceIte]; done) | fail) only [sA, ↓reduceIte, Nat.reduceLT, Nat.reduceEqDiff, Nat.reduceAdd, Nat.reduceLeDiff, y1, y2, y3, s1, s3]
    obtain ⟨X, c, fX, oX, hcall, hcase⟩ := ask (n + 17) (by omega)
    have sX : sub false 1 0 X = X := sub_cell1 fX
    by_cases hc : c = 0
    · subst hc
      rcases hcase with ⟨_, hx⟩ | ⟨_, _, hx⟩ | ⟨hall, hall2, _, rfl⟩
      · exact absurd hx (by decide)
      · exact absurd hx (by decide)
      have hb : limBad a l = none := by
        unfold limBad
        rw [if_neg h1, if_neg (by rw [hall]; decide), if_neg (by rw [hall2]; decide)]
      obtain ⟨na, rfl, hna, _, _, _, hseen⟩ := limBad_none hb
      rw [Int.toNat_natCast]
      have hqs := seen_q hseen
      have hmap : (l.map qm).map qlm = l.map lm := by
        rw [List.map_map]
        exact List.map_congr_left (fun x hx => qlm_qm (hseen x hx).2.1)
      have hok := seen_ok hseen
      rw [← hmap] at hok ⊢
      generalize l.map qm = qs at hcall hqs hmap hok ⊢
      have hql : qs.length ≤ 2000 := by
        have := congrArg List.length hmap
        rw [List.length_map, List.length_map] at this
        omega
      have hmk : ∀ m hh, natR (mkslD m hh 1 8 (.int .i64 0)) (.int .i64 (na : Int)) = .ok (.ms 1 m 0 na false) m ((m, .row 1 ((List.replicate na (0 : Int)).map encN)) :: hh) := fun m hh => mk_row (by omega)
      simp (disch := first | assumption | omega | (simp (disch := first | assumption | omega) only [sB, Nat.reduceAdd, Nat.reduceLT, Nat.reduceLeDiff, Nat.reduceEqDiff, Nat.reduceMul, ↓reduceIte]; done) | fail) only [sA, ↓reduceIte, Nat.reduceLT, Nat.reduceEqDiff, Nat.reduceAdd, Nat.reduceLeDiff, hcall, hmk, sX]
      generalize hr : LX (cFk kS Go.Proofs.Try.prog) (.loop l28_0) _ _ _ = r
      have W1 : Wh n (n + 28) (n + 31) ((n + 30, .row 1 [.int .i64 0]) :: (n + 28, .row 1 [.ms 1 (n + 27) 0 na false]) :: (n + 27, .row 1 ((List.replicate na (0 : Int)).map encN)) :: (n + 21, .row 1 [.agg [slD 4 encQ (Sl.app qs)]]) :: (n + 2, .row 1 [.int .i64 0]) :: (n + 1, .row 1 [.nils]) :: (n, .row 1 [.int .i64 (na : Int)]) :: h) :=
        ((((W3 (n + 28) (by omega)).cons (r := n + 21) (m := n + 28) (by omega) (Nat.le_refl _) (tame_flat (by simp [flat_agg, flat1_slD]))).cons (r := n + 27) (m := n + 28) (by omega) (Nat.le_refl _) tame_row).cons (r := n + 28) (m := n + 29) (by omega) (by omega) (tame_ms (by omega) (by omega))).cons (r := n + 30) (m := n + 31) (by omega) (by omega) (tame_flat rfl)
      obtain ⟨z, e2, n2, h2, rfl, W2, k4, k5, hc⟩ := solRounds (q := n + 27) (r2 := n) (r4 := n + 1) (r5 := n + 2) (r6 := n + 21) (r8 := n + 28) (r9 := n + 30) hr (W1.mono (by omega)) (by omega) (by omega) hqs hql hok ⟨by omega, by omega, by omega, by omega, by omega, by omega, by omega, by omega⟩ (by simp (disch := first | assumption | omega | (simp (disch := first | assumption | omega) only [sB, Nat.reduceAdd, Nat.reduceLT, Nat.reduceLeDiff, Nat.reduceEqDiff, Nat.reduceMul, ↓reduceIte]; done) | fail) only [sA, ↓reduceIte, Nat.reduceLT, Nat.reduceEqDiff, Nat.reduceAdd, Nat.reduceLeDiff]) (by simp (disch := first | assumption | omega | (simp (disch := first | assumption | omega) only [sB, Nat.reduceAdd, Nat.reduceLT, Nat.reduceLeDiff, Nat.reduceEqDiff, Nat.reduceMul, ↓reduceIte]; done) | fail) only [sA, ↓reduceIte, Nat.reduceLT, Nat.reduceEqDiff, Nat.reduceAdd, Nat.reduceLeDiff]) (by simp (disch := first | assumption | omega | (simp (disch := first | assumption | omega) only [sB, Nat.reduceAdd, Nat.reduceLT, Nat.reduceLeDiff, Nat.reduceEqDiff, Nat.reduceMul, ↓reduceIte]; done) | fail) only [sA, ↓reduceIte, Nat.reduceLT, Nat.reduceEqDiff, Nat.reduceAdd, Nat.reduceLeDiff]) (by simp (disch := first | assumption | omega | (simp (disch := first | assumption | omega) only [sB, Nat.reduceAdd, Nat.reduceLT, Nat.reduceLeDiff, Nat.reduceEqDiff, Nat.reduceMul, ↓reduceIte]; done) | fail) only [sA, ↓reduceIte, Nat.reduceLT, Nat.reduceEqDiff, Nat.reduceAdd, Nat.reduceLeDiff]) (by simp (disch := first | assumption | omega | (simp (disch := first | assumption | omega) only [sB, Nat.reduceAdd, Nat.reduceLT, Nat.reduceLeDiff, Nat.reduceEqDiff, Nat.reduceMul, ↓reduceIte]; done) | fail) only [sA, ↓reduceIte, Nat.reduceLT, Nat.reduceEqDiff, Nat.reduceAdd, Nat.reduceLeDiff]) (by simp (disch := first | assumption | omega | (simp (disch := first | assumption | omega) only [sB, Nat.reduceAdd, Nat.reduceLT, Nat.reduceLeDiff, Nat.reduceEqDiff, Nat.reduceMul, ↓reduceIte]; done) | fail) only [sA, ↓reduceIte, Nat.reduceLT, Nat.reduceEqDiff, Nat.reduceAdd, Nat.reduceLeDiff]) (by simp (disch := first | assumption | omega | (simp (disch := first | assumption | omega) only [sB, Nat.reduceAdd, Nat.reduceLT, Nat.reduceLeDiff, Nat.reduceEqDiff, Nat.reduceMul, ↓reduceIte]; done) | fail) only [sA, ↓reduceIte, Nat.reduceLT, Nat.reduceEqDiff, Nat.reduceAdd, Nat.reduceLeDiff]) (by simp (disch := first | assumption | omega | (simp (disch := first | assumption | omega) only [sB, Nat.reduceAdd, Nat.reduceLT, Nat.reduceLeDiff, Nat.reduceEqDiff, Nat.reduceMul, ↓reduceIte]; done) | fail) only [sA, ↓reduceIte, Nat.reduceLT, Nat.reduceEqDiff, Nat.reduceAdd, Nat.reduceLeDiff]) (by simp (disch := first | assumption | omega | (simp (disch := first | assumption | omega) only [sB, Nat.reduceAdd, Nat.reduceLT, Nat.reduceLeDiff, Nat.reduceEqDiff, Nat.reduceMul, ↓reduceIte]; done) | fail) only [sA, ↓reduceIte, Nat.reduceLT, Nat.reduceEqDiff, Nat.reduceAdd, Nat.reduceLeDiff]) (by simp (disch := first | assumption | omega | (simp (disch := first | assumption | omega) only [sB, Nat.reduceAdd, Nat.reduceLT, Nat.reduceLeDiff, Nat.reduceEqDiff, Nat.reduceMul, ↓reduceIte]; done) | fail) only [sA, ↓reduceIte, Nat.reduceLT, Nat.reduceEqDiff, Nat.reduceAdd, Nat.reduceLeDiff]) (by simp (disch := first | assumption | omega | (simp (disch := first | assumption | omega) only [sB, Nat.reduceAdd, Nat.reduceLT, Nat.reduceLeDiff, Nat.reduceEqDiff, Nat.reduceMul, ↓reduceIte]; done) | fail) only [sA, ↓reduceIte, Nat.reduceLT, Nat.reduceEqDiff, Nat.reduceAdd, Nat.reduceLeDiff]) (by simp (disch := first | assumption | omega | (simp (disch := first | assumption | omega) only [sB, Nat.reduceAdd, Nat.reduceLT, Nat.reduceLeDiff, Nat.reduceEqDiff, Nat.reduceMul, ↓reduceIte]; done) | fail) only [sA, ↓reduceIte, Nat.reduceLT, Nat.reduceEqDiff, Nat.reduceAdd, Nat.reduceLeDiff]) (by simp (disch := first | assumption | omega | (simp (disch := first | assumption | omega) only [sB, Nat.reduceAdd, Nat.reduceLT, Nat.reduceLeDiff, Nat.reduceEqDiff, Nat.reduceMul, ↓reduceIte]; done) | fail) only [sA, ↓reduceIte, Nat.reduceLT, Nat.reduceEqDiff, Nat.reduceAdd, Nat.reduceLeDiff])
      rcases hc with ⟨rfl, w, hrun, c4, c5, c6, c8, cq, k6, k8⟩ | ⟨rfl, hrun, c4, c5⟩
      · have hw := (runP_some hok hrun (zero_nums na) w rfl).2
        simp (disch := first | assumption | omega | (simp (disch := first | assumption | omega) only [sB, Nat.reduceAdd, Nat.reduceLT, Nat.reduceLeDiff, Nat.reduceEqDiff, Nat.reduceMul, ↓reduceIte]; done) | fail) only [sA, ↓reduceIte, Nat.reduceLT, Nat.reduceEqDiff, Nat.reduceAdd, Nat.reduceLeDiff, k6, c6, app_el]
        generalize hr : LX (cFk kS Go.Proofs.Try.prog) (.loop l28_1) _ _ _ = r
        obtain ⟨z, e3, n3, h3, rfl, W3', m4, m5, hc⟩ := solNums (q := n + 27) (r4 := n + 1) (r5 := n + 2) (r8 := n + 28) hr (W2.mono (by omega)) (by omega) (by omega) hqs hql hw ⟨by omega, by omega, by omega, by omega, by have := W2.1; omega⟩ c4 c5 c8 cq (by simp (disch := first | assumption | omega | (simp (disch := first | assumption | omega) only [sB, Nat.reduceAdd, Nat.reduceLT, Nat.reduceLeDiff, Nat.reduceEqDiff, Nat.reduceMul, ↓reduceIte]; done) | fail) only [sA, ↓reduceIte, Nat.reduceLT, Nat.reduceEqDiff, Nat.reduceAdd, Nat.reduceLeDiff, k4]) (by simp (disch := first | assumption | omega | (simp (disch := first | assumption | omega) only [sB, Nat.reduceAdd, Nat.reduceLT, Nat.reduceLeDiff, Nat.reduceEqDiff, Nat.reduceMul, ↓reduceIte]; done) | fail) only [sA, ↓reduceIte, Nat.reduceLT, Nat.reduceEqDiff, Nat.reduceAdd, Nat.reduceLeDiff, k5]) (by simp (disch := first | assumption | omega | (simp (disch := first | assumption | omega) only [sB, Nat.reduceAdd, Nat.reduceLT, Nat.reduceLeDiff, Nat.reduceEqDiff, Nat.reduceMul, ↓reduceIte]; done) | fail) only [sA, ↓reduceIte, Nat.reduceLT, Nat.reduceEqDiff, Nat.reduceAdd, Nat.reduceLeDiff, k8]) (by simp (disch := first | assumption | omega | (simp (disch := first | assumption | omega) only [sB, Nat.reduceAdd, Nat.reduceLT, Nat.reduceLeDiff, Nat.reduceEqDiff, Nat.reduceMul, ↓reduceIte]; done) | fail) only [sA, ↓reduceIte, Nat.reduceLT, Nat.reduceEqDiff, Nat.reduceAdd, Nat.reduceLeDiff]) (by simp (disch := first | assumption | omega | (simp (disch := first | assumption | omega) only [sB, Nat.reduceAdd, Nat.reduceLT, Nat.reduceLeDiff, Nat.reduceEqDiff, Nat.reduceMul, ↓reduceIte]; done) | fail) only [sA, ↓reduceIte, Nat.reduceLT, Nat.reduceEqDiff, Nat.reduceAdd, Nat.reduceLeDiff]) (by simp (disch := first | assumption | omega | (simp (disch := first | assumption | omega) only [sB, Nat.reduceAdd, Nat.reduceLT, Nat.reduceLeDiff, Nat.reduceEqDiff, Nat.reduceMul, ↓reduceIte]; done) | fail) only [sA, ↓reduceIte, Nat.reduceLT, Nat.reduceEqDiff, Nat.reduceAdd, Nat.reduceLeDiff])
        rcases hc with ⟨rfl, hno, d4, d5, d8, dq, m8⟩ | ⟨rfl, hno, d4, d5⟩
        · have e5 : getO (setO h3 (n + 1) (.row 1 [.ms 1 (n + 27) 0 na false])) (n + 2) = .row 1 [.int .i64 0] := getO_set2 d4 d5 (by omega)
          have hbN : n + 28 ≤ n3 := W3'.1
          have hS : Wh n (n + 28) n3 (setO (setO h3 (n + 1) (.row 1 [.ms 1 (n + 27) 0 na false])) (n + 2) (.row 1 [.int .i64 0])) := (W3'.set (tame_ms (by omega) (by omega))).set (tame_flat rfl)
          have e4 : getO (setO (setO h3 (n + 1) (.row 1 [.ms 1 (n + 27) 0 na false])) (n + 2) (.row 1 [.int .i64 0])) (n + 1) = .row 1 [.ms 1 (n + 27) 0 na false] := getO_set2 e5 (getO_set1 d4) (by omega)
          have e5' : getO (setO (setO h3 (n + 1) (.row 1 [.ms 1 (n + 27) 0 na false])) (n + 2) (.row 1 [.int .i64 0])) (n + 2) = .row 1 [.int .i64 0] := getO_set1 e5
          have eq : getO (setO (setO h3 (n + 1) (.row 1 [.ms 1 (n + 27) 0 na false])) (n + 2) (.row 1 [.int .i64 0])) (n + 27) = .row 1 (w.map encN) := getO_set2 e5 (getO_set2 d4 dq (by omega)) (by omega)
          generalize hh : setO (setO h3 (n + 1) (.row 1 [.ms 1 (n + 27) 0 na false])) (n + 2) (.row 1 [.int .i64 0]) = H4 at hS e4 e5' eq
          simp (disch := first | assumption | omega | (simp (disch := first | assumption | omega) only [sB, Nat.reduceAdd, Nat.reduceLT, Nat.reduceLeDiff, Nat.reduceEqDiff, Nat.reduceMul, ↓reduceIte]; done) | fail) only [sA, ↓reduceIte, Nat.reduceLT, Nat.reduceEqDiff, Nat.reduceAdd, Nat.reduceLeDiff, m4, m5, m8, d4, d8, e5, hh, e4, e5']
          exact ⟨_, _, _, rfl, ⟨_, hS.mono (by omega)⟩, .inr ⟨hb, n + 27, w, hrun, hno, rfl, eq, by omega⟩⟩
        · simp (disch := first | assumption | omega | (simp (disch := first | assumption | omega) only [sB, Nat.reduceAdd, Nat.reduceLT, Nat.reduceLeDiff, Nat.reduceEqDiff, Nat.reduceMul, ↓reduceIte]; done) | fail) only [sA, ↓reduceIte, Nat.reduceLT, Nat.reduceEqDiff, Nat.reduceAdd, Nat.reduceLeDiff, m4, m5, d4, d5]
          exact ⟨_, _, _, rfl, ⟨_, W3'.mono (by omega)⟩, .inl ⟨52, by decide, rfl⟩⟩
      · simp (disch := first | assumption | omega | (simp (disch := first | assumption | omega) only [sB, Nat.reduceAdd, Nat.reduceLT, Nat.reduceLeDiff, Nat.reduceEqDiff, Nat.reduceMul, ↓reduceIte]; done) | fail) only [sA, ↓reduceIte, Nat.reduceLT, Nat.reduceEqDiff, Nat.reduceAdd, Nat.reduceLeDiff, k4, k5, c4, c5]
        exact ⟨_, _, _, rfl, ⟨_, W2.mono (by omega)⟩, .inl ⟨52, by decide, rfl⟩⟩
    · simp (disch := first | assumption | omega | (simp (disch := first | assumption | omega) only [sB, Nat.reduceAdd, Nat.reduceLT, Nat.reduceLeDiff, Nat.reduceEqDiff, Nat.reduceMul, ↓reduceIte]; done) | fail) only [sA, ↓reduceIte, Nat.reduceLT, Nat.reduceEqDiff, Nat.reduceAdd, Nat.reduceLeDiff, hcall, hc, oX]
      exact ⟨_, _, _, rfl, ⟨_, ((bad c).mono (show n + 3 ≤ n + 21 by omega)).cons (r := n + 21) (m := n + 29) (by omega) (by omega) (tame_flat (by simp [flat_agg, fX]))⟩, .inl ⟨c, hc, rfl⟩⟩

set_option maxHeartbeats 8000000 in
set_option maxRecDepth 8000 in
theorem sh_run (a w : Int) (s : Sl SLim) : ∃ n' h', callFn (LX (cFk kS Go.Proofs.Try.prog)) 0 [] [.int .i64 a, slD 4 encM s, .int .i64 w] ((cFk kS Go.Proofs.Try.prog) 7) = .ok (.bool true) n' h' := by
  have F0 := fun m h => finishD_flat (n0 := 0) (n := m) (d := .bool true) rfl (leak_all h)
  rw [f7_eq]; unfold c7; rw [callFn_eq (by rfl)]
  by_cases y1 : a < 1
  · simp (disch := first | assumption | omega | (simp (disch := first | assumption | omega) only [sB, Nat.reduceAdd, Nat.reduceLT, Nat.reduceLeDiff, Nat.reduceEqDiff, Nat.reduceMul, ↓reduceIte]; done) | fail) only [sA, ↓reduceIte, Nat.reduceLT, Nat.reduceEqDiff, Nat.reduceAdd, Nat.reduceLeDiff, hAlive, y1]
    exact ⟨_, _, rfl⟩
  by_cases y2 : a > 50
  · simp (disch := first | assumption | omega | (simp (disch := first | assumption | omega) only [sB, Nat.reduceAdd, Nat.reduceLT, Nat.reduceLeDiff, Nat.reduceEqDiff, Nat.reduceMul, ↓reduceIte]; done) | fail) only [sA, ↓reduceIte, Nat.reduceLT, Nat.reduceEqDiff, Nat.reduceAdd, Nat.reduceLeDiff, hAlive, y1, y2]
    exact ⟨_, _, rfl⟩
  by_cases y3 : ((s.el.length : Nat) : Int) > 100
  · simp (disch := first | assumption | omega | (simp (disch := first | assumption | omega) only [sB, Nat.reduceAdd, Nat.reduceLT, Nat.reduceLeDiff, Nat.reduceEqDiff, Nat.reduceMul, ↓reduceIte]; done) | fail) only [sA, ↓reduceIte, Nat.reduceLT, Nat.reduceEqDiff, Nat.reduceAdd, Nat.reduceLeDiff, hAlive, y1, y2, y3]
    exact ⟨_, _, rfl⟩
  by_cases y4 : w < 0
  · simp (disch := first | assumption | omega | (simp (disch := first | assumption | omega) only [sB, Nat.reduceAdd, Nat.reduceLT, Nat.reduceLeDiff, Nat.reduceEqDiff, Nat.reduceMul, ↓reduceIte]; done) | fail) only [sA, ↓reduceIte, Nat.reduceLT, Nat.reduceEqDiff, Nat.reduceAdd, Nat.reduceLeDiff, hAlive, y1, y2, y3, y4]
    exact ⟨_, _, rfl⟩
  have hz : s.el.length < 1000000000 := by omega
  obtain ⟨X, n1, h1, hsol, ⟨b, W⟩, hcase⟩ := lvSolveK 26 [] (fun p hp => by cases hp) a (slD 4 encM s) s.el _ (Sv.slD aggM) hz
  have num : ∀ m c, n1 ≤ m → callFn (LX (cFk kS Go.Proofs.Try.prog)) m h1 [.int .i64 c] (cFk kS Go.Proofs.Try.prog 30) = .ok (.int .i64 c) m h1 := fun m c hm => hNum (W.mono hm).good c
  rcases hcase with ⟨c, hc, rfl⟩ | ⟨hb, r, v, hrun, hno, rfl, hrow, hr⟩
  · simp (disch := first | assumption | omega | (simp (disch := first | assumption | omega) only [sB, Nat.reduceAdd, Nat.reduceLT, Nat.reduceLeDiff, Nat.reduceEqDiff, Nat.reduceMul, ↓reduceIte]; done) | fail) only [sA, ↓reduceIte, Nat.reduceLT, Nat.reduceEqDiff, Nat.reduceAdd, Nat.reduceLeDiff, hAlive, y1, y2, y3, y4, hsol, num, hc, F0]
    exact ⟨_, _, rfl⟩
  · obtain ⟨na, rfl, hna, _, _, _, hseen⟩ := limBad_none hb
    rw [Int.toNat_natCast] at hrun hsol
    have hL := runP_low (seen_ok hseen) hrun (zero_nums na) (fun z hz i => by
      have : gv (List.replicate na (0 : Int)) i = 0 := by
        unfold gv
        rw [List.getD_eq_getElem?_getD, List.getElem?_replicate]
        split <;> rfl
      rw [this]; exact hz.2.1 i) v rfl
    have hvn := hL.2.1
    have hall : ∀ x, x ∈ s.el → x.a.lev.right = true ∧ x.b.lev.right = true := fun x hx => ⟨(hseen x hx).1, (hseen x hx).2.1⟩
    have hall1 : s.el.all (okM v) = true := (okM_all hseen hvn.1 hL.1.2.1).2 ⟨hL.1, hno⟩
    obtain ⟨h2, hh, W2, hrow2⟩ := hdHolds (n := n1 + 18) s (W.mono (by omega)) (q := r) (by omega) hrow hvn (by omega) hall (by omega)
    rw [hall1] at hh
    have hna1 : 0 < na := by omega
    obtain ⟨wn, rfl⟩ : ∃ wn : Nat, w = (wn : Int) := Int.eq_ofNat_of_zero_le (by omega)
    have hk : wn % na < na := Nat.mod_lt _ hna1
    have hrem : binD .rem (.int .i64 (wn : Int)) (.int .i64 (na : Int)) = .int .i64 ((wn % na : Nat) : Int) := by
      show Bool.rec (motive := fun _ => D) (D.int .i64 (Int.tmod (wn : Int) (na : Int))) .junk (eqI (na : Int) (.ofNat 0)) = _
      have e : eqI (na : Int) (.ofNat 0) = false := by
        cases na with
        | zero => omega
        | succ m => rfl
      rw [e]
      rfl
    have hrg := row_get (v := v) (k := wn % na) (by rw [hvn.1]; exact hk)
    generalize hkk : wn % na = k at hk hrem hrg
    have hkv : k < v.length := by rw [hvn.1]; exact hk
    have hgv := hvn.2 k
    by_cases z1 : gv v k = 0
    · simp (disch := first | assumption | omega | (simp (disch := first | assumption | omega) only [sB, Nat.reduceAdd, Nat.reduceLT, Nat.reduceLeDiff, Nat.reduceEqDiff, Nat.reduceMul, ↓reduceIte]; done) | fail) only [sA, ↓reduceIte, Nat.reduceLT, Nat.reduceEqDiff, Nat.reduceAdd, Nat.reduceLeDiff, hAlive, y1, y2, y3, y4, hsol, num, hh, hrem, hrow2, hrg, iaddr_row, z1, F0]
      exact ⟨_, _, rfl⟩
    · have hS := fun (n r : Nat) (h : Hps) => row_put (n := n) (r := r) (h := h) (v := v) (k := k) (x := gv v k - 1) hkv
      have hbad := less_bad hseen hL hkv z1
      have hv2 : Nums na (v.set k (gv v k - 1)) := ⟨by rw [List.length_set]; exact hvn.1, fun i => by
        rw [gv_set hkv]
        have h1 := hvn.2 i
        split <;> omega⟩
      obtain ⟨h3, hh3, _⟩ := hdHolds (n := n1 + 40) (h := setO h2 r (.row 1 ((v.set k (gv v k - 1)).map encN))) s ((W2.set tame_row).mono (by omega)) (q := r) (by omega) (getO_set1 hrow2) hv2 (by omega) hall (by omega)
      rw [hbad] at hh3
      simp (disch := first | assumption | omega | (simp (disch := first | assumption | omega) only [sB, Nat.reduceAdd, Nat.reduceLT, Nat.reduceLeDiff, Nat.reduceEqDiff, Nat.reduceMul, ↓reduceIte]; done) | fail) only [sA, ↓reduceIte, Nat.reduceLT, Nat.reduceEqDiff, Nat.reduceAdd, Nat.reduceLeDiff, hAlive, y1, y2, y3, y4, hsol, num, hh, hrem, hrow2, hrg, iaddr_row, z1, hS, hh3, F0]
      exact ⟨_, _, rfl⟩

set_option maxRecDepth 100000 in
theorem sh_lifted (os : Os) (started : os.Started) (H : Type) (enc : TypeId × Value → H) :
    ReturnsInHanded {} Go.Proofs.Try.checked os 7 .any (Rows.lsolveHoldsSpec.pre6 enc Go.Proofs.Try.prog Go.Proofs.Try.f7 Rows.lsolveHoldsRow.domain false) (Rows.lsolveHoldsSpec.post enc Go.Proofs.Try.prog Go.Proofs.Try.f7 false true false false) := by
  refine law_lifted (K := kS) (C := Go.Proofs.Try.checked) (tb := 4) own started (by kernel_rfl) Go.Proofs.Try.func7
    (ChangeSpec.witness6 (enc := enc) (C := Go.Proofs.Try.checked) false ⟨#[], #[.int .i64 0, .slice none 0 0, .int .i64 0], []⟩ 8 (by kernel_rfl) (by kernel_rfl) (by kernel_rfl) (by kernel_rfl))
    mixed laidOut rowed_maps full_slices (by kernel_rfl) rfl (by kernel_rfl) rfl ?_ ?_
  · intro ds hl
    match ds, hl with
    | [_, _, _], _ => rfl
  · intro ds l hA
    have hA : ArgsAre Go.Proofs.Try.prog [3, 40, 3] ds l := hA
    obtain ⟨x, y, z, f1, f2, f3, rfl, h1, h2, h3⟩ := args_three hA
    obtain ⟨k, e1, _⟩ := int_arg (k := .i64) (by kernel_rfl) h1
    obtain ⟨s, e2, _, _⟩ := slice_arg (k := 4) (enc := encM) (R := fun _ _ => True) Go.Proofs.Try.underlying40 (by kernel_rfl) h2 (fun g' y _ hy => by
      obtain ⟨l, e⟩ := lim_arg _ _ hy
      exact ⟨l, e, trivial⟩)
    obtain ⟨j, e3, _⟩ := int_arg (k := .i64) (by kernel_rfl) h3
    rw [e1, e2, e3]
    exact sh_run k j s

theorem LsolveHolds_holds : Rows.LsolveHoldsSaid :=
  OpenClaim.holds_of_wide 7 Go.Proofs.Try.f7 rfl rfl rfl rfl rfl rfl rfl ⟨rfl, rfl, rfl, rfl, rfl⟩ rfl rfl rfl rfl rfl (by kernel_rfl) Go.Proofs.Try.func7 (by kernel_rfl)
    (of_decide_eq_true (by kernel_rfl)) (by unfold Func.isWrapper; first | (rw [if_pos (by decide +kernel)]; kernel_rfl) | (rw [if_neg (by decide +kernel)]; exact ⟨rfl, rfl⟩))
    (fun os started H enc _ => sh_lifted os started H enc)
end Go.Proofs.Ytjagmfgjlfkmgaa
