/- TermSame: whether two terms are one, in the fields that their forms have. No condition. -/
import Derived.Test.YtdijijblccmfbaaTS
import Derived.Test.YtdijijblccmfbaaTK
import Derived.Test.YtdijijblccmfbaaTR
import Derived.Test.YtdijijblccmfbaaTT
import Derived.Test.YtdijijblccmfbaaLH
import Derived.Test.YtdijijblccmfbaaCS1
import Derived.Test.YtdijijblccmfbaaA38
set_option linter.unusedSimpArgs false
set_option linter.unusedVariables false
namespace Go.Proofs.Ytdijijblccmfbaa
open Go Go.ChangeShapes Go.WideShapes Go.ChangeAt Go.RowKit

theorem same_canon {a b : Lev} (ha : a.canon = true) (hb : b.canon = true) : Lev.same a b = levEq a b := by
  unfold Lev.canon at ha hb
  rw [Bool.and_eq_true, Bool.and_eq_true, decide_eq_true_iff, decide_eq_true_iff] at ha hb
  unfold Lev.same levEq
  rw [ha.1, hb.1, ha.2.1, ha.2.2, hb.2.1, hb.2.2]
  rfl
set_option maxHeartbeats 4000000 in
theorem rSameLevel (N M : Int) (s r : Sl LV) (hs : Lev.canon ⟨N, s.el⟩ = true) (hr : Lev.canon ⟨M, r.el⟩ = true) (n : Nat) (h : Hps) (hg : Gd n h) : callFn (LX (cF Go.Proofs.Try.prog)) n h [(D.agg [.int .i64 (N), slD 2 encV (s)]), (D.agg [.int .i64 (M), slD 2 encV (r)])] (cF Go.Proofs.Try.prog 110) = .ok (.bool (levEq ⟨N, s.el⟩ ⟨M, r.el⟩)) n h := by
  have hgn := hg n (Nat.le_refl _)
  have hG : ∀ m, n ≤ m → Gd m h := fun m hm => Gd.mono hg hm
  have k1 : s.el.length ≤ 64 := canon_len hs
  have k2 : r.el.length ≤ 64 := canon_len hr
  have c1 : ∀ m h, Gd m h → callFn (LX (cF Go.Proofs.Try.prog)) m h [(D.agg [.int .i64 (N), slD 2 encV (s)]), (D.agg [.int .i64 (M), slD 2 encV (r)])] (cF Go.Proofs.Try.prog 125) = .ok (.bool (Lev.leq ⟨N, s.el⟩ ⟨M, r.el⟩)) m h := fun m h hg => refLeq m h hg N M _ _ _ _ _ _ (svV s) (svV r) (by omega) (by omega)
  have c2 : ∀ m h, Gd m h → callFn (LX (cF Go.Proofs.Try.prog)) m h [(D.agg [.int .i64 (M), slD 2 encV (r)]), (D.agg [.int .i64 (N), slD 2 encV (s)])] (cF Go.Proofs.Try.prog 125) = .ok (.bool (Lev.leq ⟨M, r.el⟩ ⟨N, s.el⟩)) m h := fun m h hg => refLeq m h hg M N _ _ _ _ _ _ (svV r) (svV s) (by omega) (by omega)
  rw [← same_canon hs hr, ← leq_both]
  rw [f110_eq]; unfold c110; rw [callFn_eq (by rfl)]
  cases hx : Lev.leq ⟨N, s.el⟩ ⟨M, r.el⟩ with
  | true =>
    rw [hx] at c1
    rw [Bool.true_and]
    simp (disch := first | assumption | omega | (simp (disch := first | assumption | omega) only [sB, Nat.reduceAdd, Nat.reduceLT, Nat.reduceLeDiff, Nat.reduceEqDiff, Nat.reduceMul, ↓reduceIte, hG, gd_lev]; done) | fail) only [sA, ↓reduceIte, Nat.reduceLT, Nat.reduceEqDiff, Nat.reduceAdd, Nat.reduceLeDiff, c1, c2, hG, gd_lev]
  | false =>
    rw [hx] at c1
    rw [Bool.false_and]
    simp (disch := first | assumption | omega | (simp (disch := first | assumption | omega) only [sB, Nat.reduceAdd, Nat.reduceLT, Nat.reduceLeDiff, Nat.reduceEqDiff, Nat.reduceMul, ↓reduceIte, hG, gd_lev]; done) | fail) only [sA, ↓reduceIte, Nat.reduceLT, Nat.reduceEqDiff, Nat.reduceAdd, Nat.reduceLeDiff, c1, hG, gd_lev]

section
variable (n : Nat) (h : Hps) (hid : Bool) (a b : Tm)
set_option maxHeartbeats 4000000 in
theorem rLevs (hl : a.levels.el.length = b.levels.el.length) (hk : a.levels.el.length ≤ 9223372036854775807) (h1 : ∀ l, l ∈ a.levels.el → l.lev.canon = true) (h2 : ∀ l, l ∈ b.levels.el → l.lev.canon = true)
    {e : Tr} {n0 : Nat} {h' : Hps} {r : Re} (hr : LX (cF Go.Proofs.Try.prog) (.loop l80_0) e n0 h' = r) (H : Hp n h n0 h') (p0 : n + 2 ≤ n0) (b3 : getO h' n = (Ob.row 6 [.agg [.int .i64 (a).form, .int .i64 (a).n, .bool (a).hid, .str (a).name, slD 2 encL (a).levels, slD 6 encT (a).kids]])) (b4 : getO h' (n + 1) = (Ob.row 6 [.agg [.int .i64 (b).form, .int .i64 (b).n, .bool (b).hid, .str (b).name, slD 2 encL (b).levels, slD 6 encT (b).kids]]))
    (g2 : get (po 2) e = .bool hid) (g3 : get (po 3) e = .ptr n 0 0) (g4 : get (po 4) e = .ptr (n + 1) 0 0) (g7 : get (po 7) e = .int .i64 0) :
    ∃ x e' n' h'', r = .ok x e' n' h'' ∧ Hp n h n' h'' ∧ n + 2 ≤ n' ∧ getO h'' n = (Ob.row 6 [.agg [.int .i64 (a).form, .int .i64 (a).n, .bool (a).hid, .str (a).name, slD 2 encL (a).levels, slD 6 encT (a).kids]]) ∧ getO h'' (n + 1) = (Ob.row 6 [.agg [.int .i64 (b).form, .int .i64 (b).n, .bool (b).hid, .str (b).name, slD 2 encL (b).levels, slD 6 encT (b).kids]]) ∧ ((x = .exit 1 ∧ levsEq (a.levels.el.map SLev.lev) (b.levels.el.map SLev.lev) = true ∧ get (po 2) e' = .bool hid ∧ get (po 3) e' = .ptr n 0 0 ∧ get (po 4) e' = .ptr (n + 1) 0 0) ∨ (x = .ret ∧ levsEq (a.levels.el.map SLev.lev) (b.levels.el.map SLev.lev) = false ∧ get (po 6) e' = .bool false)) := by
  generalize hB : levsEq (a.levels.el.map SLev.lev) (b.levels.el.map SLev.lev) = B
  refine loop_up hr a.levels.el.length
    (fun i e n' h'' => Hp n h n' h'' ∧ n + 2 ≤ n' ∧ getO h'' n = (Ob.row 6 [.agg [.int .i64 (a).form, .int .i64 (a).n, .bool (a).hid, .str (a).name, slD 2 encL (a).levels, slD 6 encT (a).kids]]) ∧ getO h'' (n + 1) = (Ob.row 6 [.agg [.int .i64 (b).form, .int .i64 (b).n, .bool (b).hid, .str (b).name, slD 2 encL (b).levels, slD 6 encT (b).kids]]) ∧ levsEq ((a.levels.el.drop i).map SLev.lev) ((b.levels.el.drop i).map SLev.lev) = B ∧ get (po 2) e = .bool hid ∧ get (po 3) e = .ptr n 0 0 ∧ get (po 4) e = .ptr (n + 1) 0 0 ∧ get (po 7) e = .int .i64 (i : Nat))
    (fun x e' n' h'' => Hp n h n' h'' ∧ n + 2 ≤ n' ∧ getO h'' n = (Ob.row 6 [.agg [.int .i64 (a).form, .int .i64 (a).n, .bool (a).hid, .str (a).name, slD 2 encL (a).levels, slD 6 encT (a).kids]]) ∧ getO h'' (n + 1) = (Ob.row 6 [.agg [.int .i64 (b).form, .int .i64 (b).n, .bool (b).hid, .str (b).name, slD 2 encL (b).levels, slD 6 encT (b).kids]]) ∧ ((x = .exit 1 ∧ B = true ∧ get (po 2) e' = .bool hid ∧ get (po 3) e' = .ptr n 0 0 ∧ get (po 4) e' = .ptr (n + 1) 0 0) ∨ (x = .ret ∧ B = false ∧ get (po 6) e' = .bool false)))
    ?_ ?_ ⟨H, p0, b3, b4, by rw [List.drop_zero, List.drop_zero]; exact hB, g2, g3, g4, g7⟩
  · rintro e n' h'' ⟨H, p1, b3, b4, hb, g2, g3, g4, g7⟩
    rw [List.drop_length, hl, List.drop_length, List.map_nil, levsEq] at hb
    unfold l80_0
    simp (disch := first | assumption | omega | (simp (disch := first | assumption | omega) only [sB, Nat.reduceAdd, Nat.reduceLT, Nat.reduceLeDiff, Nat.reduceEqDiff, Nat.reduceMul, ↓reduceIte]; done) | fail) only [sA, ↓reduceIte, Nat.reduceLT, Nat.reduceEqDiff, Nat.reduceAdd, Nat.reduceLeDiff, g3, g7, b3]
    exact ⟨_, _, _, _, rfl, by simp, H.mono (by omega), by omega, b3, b4, .inl ⟨rfl, hb.symm, by simp (disch := first | assumption | omega | (simp (disch := first | assumption | omega) only [sB, Nat.reduceAdd, Nat.reduceLT, Nat.reduceLeDiff, Nat.reduceEqDiff, Nat.reduceMul, ↓reduceIte]; done) | fail) only [sA, ↓reduceIte, Nat.reduceLT, Nat.reduceEqDiff, Nat.reduceAdd, Nat.reduceLeDiff, g2], by simp (disch := first | assumption | omega | (simp (disch := first | assumption | omega) only [sB, Nat.reduceAdd, Nat.reduceLT, Nat.reduceLeDiff, Nat.reduceEqDiff, Nat.reduceMul, ↓reduceIte]; done) | fail) only [sA, ↓reduceIte, Nat.reduceLT, Nat.reduceEqDiff, Nat.reduceAdd, Nat.reduceLeDiff, g3], by simp (disch := first | assumption | omega | (simp (disch := first | assumption | omega) only [sB, Nat.reduceAdd, Nat.reduceLT, Nat.reduceLeDiff, Nat.reduceEqDiff, Nat.reduceMul, ↓reduceIte]; done) | fail) only [sA, ↓reduceIte, Nat.reduceLT, Nat.reduceEqDiff, Nat.reduceAdd, Nat.reduceLeDiff, g4]⟩⟩
  · rintro i e n' h'' hi ⟨H, p1, b3, b4, hb, g2, g3, g4, g7⟩
    have hi' : i < b.levels.el.length := by omega
    rw [List.drop_eq_getElem_cons hi, List.drop_eq_getElem_cons hi', List.map_cons, List.map_cons, levsEq] at hb
    have k1 := h1 _ (List.getElem_mem hi)
    have k2 := h2 _ (List.getElem_mem hi')
    have hG : ∀ m, n' ≤ m → Gd m h'' := fun m hm => H.good' hm
    have hky : ∀ m, n' ≤ m → keysFrom m h'' = [] := fun m hm => keys_gd (hG m hm)
    generalize hW : a.levels.el[i] = W at hb k1
    generalize hW' : b.levels.el[i] = W' at hb k2
    obtain ⟨an, av⟩ := W
    obtain ⟨bn, bv⟩ := W'
    replace hb : (levEq ⟨an, av.el⟩ ⟨bn, bv.el⟩ && levsEq ((a.levels.el.drop (i + 1)).map SLev.lev) ((b.levels.el.drop (i + 1)).map SLev.lev)) = B := hb
    have c1 := rSameLevel an bn av bv k1 k2
    unfold l80_0
    cases hc : levEq ⟨an, av.el⟩ ⟨bn, bv.el⟩ with
    | true =>
      rw [hc] at c1
      rw [hc, Bool.true_and] at hb
      simp (disch := first | assumption | omega | (simp (disch := first | assumption | omega) only [sB, Nat.reduceAdd, Nat.reduceLT, Nat.reduceLeDiff, Nat.reduceEqDiff, Nat.reduceMul, ↓reduceIte, hG, gd_nil, hi']; done) | fail) only [sA, ↓reduceIte, Nat.reduceLT, Nat.reduceEqDiff, Nat.reduceAdd, Nat.reduceLeDiff, g2, g3, g4, g7, b3, b4, hW, hW', encL, c1, hky, hG, gd_nil, hi']
      exact ⟨_, _, _, _, rfl, .inl ⟨rfl, H.mono (by omega), by omega, b3, b4, hb, by simp (disch := first | assumption | omega | (simp (disch := first | assumption | omega) only [sB, Nat.reduceAdd, Nat.reduceLT, Nat.reduceLeDiff, Nat.reduceEqDiff, Nat.reduceMul, ↓reduceIte]; done) | fail) only [sA, ↓reduceIte, Nat.reduceLT, Nat.reduceEqDiff, Nat.reduceAdd, Nat.reduceLeDiff, g2], by simp (disch := first | assumption | omega | (simp (disch := first | assumption | omega) only [sB, Nat.reduceAdd, Nat.reduceLT, Nat.reduceLeDiff, Nat.reduceEqDiff, Nat.reduceMul, ↓reduceIte]; done) | fail) only [sA, ↓reduceIte, Nat.reduceLT, Nat.reduceEqDiff, Nat.reduceAdd, Nat.reduceLeDiff, g3], by simp (disch := first | assumption | omega | (simp (disch := first | assumption | omega) only [sB, Nat.reduceAdd, Nat.reduceLT, Nat.reduceLeDiff, Nat.reduceEqDiff, Nat.reduceMul, ↓reduceIte]; done) | fail) only [sA, ↓reduceIte, Nat.reduceLT, Nat.reduceEqDiff, Nat.reduceAdd, Nat.reduceLeDiff, g4], by simp (disch := first | assumption | omega | (simp (disch := first | assumption | omega) only [sB, Nat.reduceAdd, Nat.reduceLT, Nat.reduceLeDiff, Nat.reduceEqDiff, Nat.reduceMul, ↓reduceIte]; done) | fail) only [sA, ↓reduceIte, Nat.reduceLT, Nat.reduceEqDiff, Nat.reduceAdd, Nat.reduceLeDiff]⟩⟩
    | false =>
      rw [hc] at c1
      rw [hc, Bool.false_and] at hb
      simp (disch := first | assumption | omega | (simp (disch := first | assumption | omega) only [sB, Nat.reduceAdd, Nat.reduceLT, Nat.reduceLeDiff, Nat.reduceEqDiff, Nat.reduceMul, ↓reduceIte, hG, gd_nil, hi']; done) | fail) only [sA, ↓reduceIte, Nat.reduceLT, Nat.reduceEqDiff, Nat.reduceAdd, Nat.reduceLeDiff, g2, g3, g4, g7, b3, b4, hW, hW', encL, c1, hky, hG, gd_nil, hi']
      exact ⟨_, _, _, _, rfl, .inr ⟨by simp, H.mono (by omega), by omega, b3, b4, .inr ⟨rfl, hb.symm, by simp (disch := first | assumption | omega | (simp (disch := first | assumption | omega) only [sB, Nat.reduceAdd, Nat.reduceLT, Nat.reduceLeDiff, Nat.reduceEqDiff, Nat.reduceMul, ↓reduceIte]; done) | fail) only [sA, ↓reduceIte, Nat.reduceLT, Nat.reduceEqDiff, Nat.reduceAdd, Nat.reduceLeDiff]⟩⟩⟩
set_option maxHeartbeats 4000000 in
theorem rKidsLoop (hl : a.kids.el.length = b.kids.el.length) (h3 : a.kids.el.length ≤ 3)
    (ih : ∀ (i : Nat) (hi : i < a.kids.el.length) (hi' : i < b.kids.el.length), ∀ m h, Gd m h → callFn (LX (cF Go.Proofs.Try.prog)) m h [(D.agg [.int .i64 (a.kids.el[i]).form, .int .i64 (a.kids.el[i]).n, .bool (a.kids.el[i]).hid, .str (a.kids.el[i]).name, slD 2 encL (a.kids.el[i]).levels, slD 6 encT (a.kids.el[i]).kids]), (D.agg [.int .i64 (b.kids.el[i]).form, .int .i64 (b.kids.el[i]).n, .bool (b.kids.el[i]).hid, .str (b.kids.el[i]).name, slD 2 encL (b.kids.el[i]).levels, slD 6 encT (b.kids.el[i]).kids]), .bool hid] (cF Go.Proofs.Try.prog 80) = .ok (.bool (sameT hid a.kids.el[i].abs b.kids.el[i].abs)) m h)
    {e : Tr} {n0 : Nat} {h' : Hps} {r : Re} (hr : LX (cF Go.Proofs.Try.prog) (.loop l80_1) e n0 h' = r) (H : Hp n h n0 h') (p0 : n + 2 ≤ n0) (b3 : getO h' n = (Ob.row 6 [.agg [.int .i64 (a).form, .int .i64 (a).n, .bool (a).hid, .str (a).name, slD 2 encL (a).levels, slD 6 encT (a).kids]])) (b4 : getO h' (n + 1) = (Ob.row 6 [.agg [.int .i64 (b).form, .int .i64 (b).n, .bool (b).hid, .str (b).name, slD 2 encL (b).levels, slD 6 encT (b).kids]]))
    (g2 : get (po 2) e = .bool hid) (g3 : get (po 3) e = .ptr n 0 0) (g4 : get (po 4) e = .ptr (n + 1) 0 0) (g9 : get (po 9) e = .int .i64 0) :
    ∃ x e' n' h'', r = .ok x e' n' h'' ∧ Hp n h n' h'' ∧ ((x = .exit 3 ∧ sameTs hid (a.kids.el.map Tm.abs) (b.kids.el.map Tm.abs) = true) ∨ (x = .ret ∧ sameTs hid (a.kids.el.map Tm.abs) (b.kids.el.map Tm.abs) = false ∧ get (po 6) e' = .bool false)) := by
  generalize hB : sameTs hid (a.kids.el.map Tm.abs) (b.kids.el.map Tm.abs) = B
  refine loop_up hr a.kids.el.length
    (fun i e n' h'' => Hp n h n' h'' ∧ n + 2 ≤ n' ∧ getO h'' n = (Ob.row 6 [.agg [.int .i64 (a).form, .int .i64 (a).n, .bool (a).hid, .str (a).name, slD 2 encL (a).levels, slD 6 encT (a).kids]]) ∧ getO h'' (n + 1) = (Ob.row 6 [.agg [.int .i64 (b).form, .int .i64 (b).n, .bool (b).hid, .str (b).name, slD 2 encL (b).levels, slD 6 encT (b).kids]]) ∧ sameTs hid ((a.kids.el.drop i).map Tm.abs) ((b.kids.el.drop i).map Tm.abs) = B ∧ get (po 2) e = .bool hid ∧ get (po 3) e = .ptr n 0 0 ∧ get (po 4) e = .ptr (n + 1) 0 0 ∧ get (po 9) e = .int .i64 (i : Nat))
    (fun x e' n' h'' => Hp n h n' h'' ∧ ((x = .exit 3 ∧ B = true) ∨ (x = .ret ∧ B = false ∧ get (po 6) e' = .bool false)))
    ?_ ?_ ⟨H, p0, b3, b4, by rw [List.drop_zero, List.drop_zero]; exact hB, g2, g3, g4, g9⟩
  · rintro e n' h'' ⟨H, p1, b3, b4, hb, g2, g3, g4, g9⟩
    rw [List.drop_length, List.map_nil, sameTs_nil] at hb
    unfold l80_1
    simp (disch := first | assumption | omega | (simp (disch := first | assumption | omega) only [sB, Nat.reduceAdd, Nat.reduceLT, Nat.reduceLeDiff, Nat.reduceEqDiff, Nat.reduceMul, ↓reduceIte]; done) | fail) only [sA, ↓reduceIte, Nat.reduceLT, Nat.reduceEqDiff, Nat.reduceAdd, Nat.reduceLeDiff, g3, g9, b3]
    exact ⟨_, _, _, _, rfl, by simp, H.mono (by omega), .inl ⟨rfl, hb.symm⟩⟩
  · rintro i e n' h'' hi ⟨H, p1, b3, b4, hb, g2, g3, g4, g9⟩
    have hi' : i < b.kids.el.length := by omega
    rw [List.drop_eq_getElem_cons hi, List.drop_eq_getElem_cons hi', List.map_cons, List.map_cons, sameTs_cons] at hb
    have hG : ∀ m, n' ≤ m → Gd m h'' := fun m hm => H.good' hm
    have c1 := ih i hi hi'
    unfold l80_1
    cases hc : sameT hid a.kids.el[i].abs b.kids.el[i].abs with
    | true =>
      rw [hc] at c1
      rw [hc, Bool.true_and] at hb
      simp (disch := first | assumption | omega | (simp (disch := first | assumption | omega) only [sB, Nat.reduceAdd, Nat.reduceLT, Nat.reduceLeDiff, Nat.reduceEqDiff, Nat.reduceMul, ↓reduceIte, hG, hi']; done) | fail) only [sA, ↓reduceIte, Nat.reduceLT, Nat.reduceEqDiff, Nat.reduceAdd, Nat.reduceLeDiff, g2, g3, g4, g9, b3, b4, encT_eq, c1, hG, hi']
      exact ⟨_, _, _, _, rfl, .inl ⟨rfl, H.mono (by omega), by omega, b3, b4, hb, by simp (disch := first | assumption | omega | (simp (disch := first | assumption | omega) only [sB, Nat.reduceAdd, Nat.reduceLT, Nat.reduceLeDiff, Nat.reduceEqDiff, Nat.reduceMul, ↓reduceIte]; done) | fail) only [sA, ↓reduceIte, Nat.reduceLT, Nat.reduceEqDiff, Nat.reduceAdd, Nat.reduceLeDiff, g2], by simp (disch := first | assumption | omega | (simp (disch := first | assumption | omega) only [sB, Nat.reduceAdd, Nat.reduceLT, Nat.reduceLeDiff, Nat.reduceEqDiff, Nat.reduceMul, ↓reduceIte]; done) | fail) only [sA, ↓reduceIte, Nat.reduceLT, Nat.reduceEqDiff, Nat.reduceAdd, Nat.reduceLeDiff, g3], by simp (disch := first | assumption | omega | (simp (disch := first | assumption | omega) only [sB, Nat.reduceAdd, Nat.reduceLT, Nat.reduceLeDiff, Nat.reduceEqDiff, Nat.reduceMul, ↓reduceIte]; done) | fail) only [sA, ↓reduceIte, Nat.reduceLT, Nat.reduceEqDiff, Nat.reduceAdd, Nat.reduceLeDiff, g4], by simp (disch := first | assumption | omega | (simp (disch := first | assumption | omega) only [sB, Nat.reduceAdd, Nat.reduceLT, Nat.reduceLeDiff, Nat.reduceEqDiff, Nat.reduceMul, ↓reduceIte]; done) | fail) only [sA, ↓reduceIte, Nat.reduceLT, Nat.reduceEqDiff, Nat.reduceAdd, Nat.reduceLeDiff]⟩⟩
    | false =>
      rw [hc] at c1
      rw [hc, Bool.false_and] at hb
      simp (disch := first | assumption | omega | (simp (disch := first | assumption | omega) only [sB, Nat.reduceAdd, Nat.reduceLT, Nat.reduceLeDiff, Nat.reduceEqDiff, Nat.reduceMul, ↓reduceIte, hG, hi']; done) | fail) only [sA, ↓reduceIte, Nat.reduceLT, Nat.reduceEqDiff, Nat.reduceAdd, Nat.reduceLeDiff, g2, g3, g4, g9, b3, b4, encT_eq, c1, hG, hi']
      exact ⟨_, _, _, _, rfl, .inr ⟨by simp, H.mono (by omega), .inr ⟨rfl, hb.symm, by simp (disch := first | assumption | omega | (simp (disch := first | assumption | omega) only [sB, Nat.reduceAdd, Nat.reduceLT, Nat.reduceLeDiff, Nat.reduceEqDiff, Nat.reduceMul, ↓reduceIte]; done) | fail) only [sA, ↓reduceIte, Nat.reduceLT, Nat.reduceEqDiff, Nat.reduceAdd, Nat.reduceLeDiff]⟩⟩⟩
end

set_option maxHeartbeats 8000000 in
theorem rSameT (hid : Bool) : ∀ a : Tm, formedT a.abs = true → saneT a.abs = true → ∀ b : Tm, formedT b.abs = true → ∀ (n : Nat) (h : Hps), Gd n h → callFn (LX (cF Go.Proofs.Try.prog)) n h [(D.agg [.int .i64 (a).form, .int .i64 (a).n, .bool (a).hid, .str (a).name, slD 2 encL (a).levels, slD 6 encT (a).kids]), (D.agg [.int .i64 (b).form, .int .i64 (b).n, .bool (b).hid, .str (b).name, slD 2 encL (b).levels, slD 6 encT (b).kids]), .bool hid] (cF Go.Proofs.Try.prog 80) = .ok (.bool (sameT hid a.abs b.abs)) n h := by
  refine Tm.ind ?_
  intro a ih0 fa sa b fb n h hg
  obtain ⟨⟨hll, hkl⟩, hsk⟩ := sane_tm sa
  obtain ⟨⟨ka, pa⟩, kka⟩ := formed_kids fa
  obtain ⟨⟨_, pb⟩, kkb⟩ := formed_kids fb
  rw [abs_kids, List.length_map] at ka
  have ih : ∀ (i : Nat) (hi : i < a.kids.el.length) (hi' : i < b.kids.el.length), ∀ m h, Gd m h → callFn (LX (cF Go.Proofs.Try.prog)) m h [(D.agg [.int .i64 (a.kids.el[i]).form, .int .i64 (a.kids.el[i]).n, .bool (a.kids.el[i]).hid, .str (a.kids.el[i]).name, slD 2 encL (a.kids.el[i]).levels, slD 6 encT (a.kids.el[i]).kids]), (D.agg [.int .i64 (b.kids.el[i]).form, .int .i64 (b.kids.el[i]).n, .bool (b.kids.el[i]).hid, .str (b.kids.el[i]).name, slD 2 encL (b.kids.el[i]).levels, slD 6 encT (b.kids.el[i]).kids]), .bool hid] (cF Go.Proofs.Try.prog 80) = .ok (.bool (sameT hid a.kids.el[i].abs b.kids.el[i].abs)) m h := fun i hi hi' m h hg =>
    ih0 _ (List.getElem_mem hi) (kka _ (by rw [abs_kids]; exact List.mem_map.2 ⟨_, List.getElem_mem hi, rfl⟩)) (hsk _ (List.getElem_mem hi)) _ (kkb _ (by rw [abs_kids]; exact List.mem_map.2 ⟨_, List.getElem_mem hi', rfl⟩)) m h hg
  clear ih0
  have hgn := hg n (Nat.le_refl _)
  have H0 : Hp n h (n + 2) ((n + 1, (Ob.row 6 [.agg [.int .i64 (b).form, .int .i64 (b).n, .bool (b).hid, .str (b).name, slD 2 encL (b).levels, slD 6 encT (b).kids]])) :: (n, (Ob.row 6 [.agg [.int .i64 (a).form, .int .i64 (a).n, .bool (a).hid, .str (a).name, slD 2 encL (a).levels, slD 6 encT (a).kids]])) :: h) := ((Hp.start hg).box (k := 6) (r := n) (m := n + 1) (Nat.le_refl _) (by omega) (flatTA a)).box (k := 6) (r := n + 1) (m := n + 2) (by omega) (by omega) (flatTA b)
  rw [sameT_eq, partEq_tm, abs_kids, abs_kids]
  have tailK : a.kids.el.length = b.kids.el.length → ∀ {e : Tr} {n0 : Nat} {h' : Hps} {r : Re}, LX (cF Go.Proofs.Try.prog) (.loop l80_1) e n0 h' = r → Hp n h n0 h' → n + 2 ≤ n0 → getO h' n = (Ob.row 6 [.agg [.int .i64 (a).form, .int .i64 (a).n, .bool (a).hid, .str (a).name, slD 2 encL (a).levels, slD 6 encT (a).kids]]) → getO h' (n + 1) = (Ob.row 6 [.agg [.int .i64 (b).form, .int .i64 (b).n, .bool (b).hid, .str (b).name, slD 2 encL (b).levels, slD 6 encT (b).kids]]) → get (po 2) e = .bool hid → get (po 3) e = .ptr n 0 0 → get (po 4) e = .ptr (n + 1) 0 0 → get (po 9) e = .int .i64 0 →
      ∃ x e' n' h'', r = .ok x e' n' h'' ∧ Hp n h n' h'' ∧ ((x = .exit 3 ∧ sameTs hid (a.kids.el.map Tm.abs) (b.kids.el.map Tm.abs) = true) ∨ (x = .ret ∧ sameTs hid (a.kids.el.map Tm.abs) (b.kids.el.map Tm.abs) = false ∧ get (po 6) e' = .bool false)) :=
    fun hl {_ _ _ _} hr H p b3 b4 g2 g3 g4 g9 => rKidsLoop n h hid a b hl ka ih hr H p b3 b4 g2 g3 g4 g9
  have tailL : (a.form = 2 ∨ a.form = 10) → a.form = b.form → a.levels.el.length = b.levels.el.length → ∀ {e : Tr} {n0 : Nat} {h' : Hps} {r : Re}, LX (cF Go.Proofs.Try.prog) (.loop l80_0) e n0 h' = r → Hp n h n0 h' → n + 2 ≤ n0 → getO h' n = (Ob.row 6 [.agg [.int .i64 (a).form, .int .i64 (a).n, .bool (a).hid, .str (a).name, slD 2 encL (a).levels, slD 6 encT (a).kids]]) → getO h' (n + 1) = (Ob.row 6 [.agg [.int .i64 (b).form, .int .i64 (b).n, .bool (b).hid, .str (b).name, slD 2 encL (b).levels, slD 6 encT (b).kids]]) → get (po 2) e = .bool hid → get (po 3) e = .ptr n 0 0 → get (po 4) e = .ptr (n + 1) 0 0 → get (po 7) e = .int .i64 0 →
      ∃ x e' n' h'', r = .ok x e' n' h'' ∧ Hp n h n' h'' ∧ n + 2 ≤ n' ∧ getO h'' n = (Ob.row 6 [.agg [.int .i64 (a).form, .int .i64 (a).n, .bool (a).hid, .str (a).name, slD 2 encL (a).levels, slD 6 encT (a).kids]]) ∧ getO h'' (n + 1) = (Ob.row 6 [.agg [.int .i64 (b).form, .int .i64 (b).n, .bool (b).hid, .str (b).name, slD 2 encL (b).levels, slD 6 encT (b).kids]]) ∧ ((x = .exit 1 ∧ levsEq (a.levels.el.map SLev.lev) (b.levels.el.map SLev.lev) = true ∧ get (po 2) e' = .bool hid ∧ get (po 3) e' = .ptr n 0 0 ∧ get (po 4) e' = .ptr (n + 1) 0 0) ∨ (x = .ret ∧ levsEq (a.levels.el.map SLev.lev) (b.levels.el.map SLev.lev) = false ∧ get (po 6) e' = .bool false)) := by
    intro hf hfb hl e n0 h' r hr H p b3 b4 g2 g3 g4 g7
    have q1 := part_canon pa (by rw [abs_form]; exact hf)
    have q2 := part_canon pb (by rw [abs_form]; rw [← hfb]; exact hf)
    rw [abs_levels, List.all_map, List.all_eq_true] at q1 q2
    exact rLevs n h hid a b hl hll q1 q2 hr H p b3 b4 g2 g3 g4 g7
  have hlen : a.levels.el.length ≠ b.levels.el.length → levsEq (a.levels.el.map SLev.lev) (b.levels.el.map SLev.lev) = false := fun hl => levsEq_len (by rw [List.length_map, List.length_map]; exact hl)
  clear ih pa pb kka kkb hll hkl hsk sa fa fb
  generalize sameTs hid (a.kids.el.map Tm.abs) (b.kids.el.map Tm.abs) = B at tailK ⊢
  generalize levsEq (a.levels.el.map SLev.lev) (b.levels.el.map SLev.lev) = L at tailL hlen ⊢
  generalize hfa : a.form = f at *
  generalize hfb : b.form = g at *
  rw [f80_eq]; unfold c80; rw [callFn_eq (by rfl)]
  by_cases y0 : f = g
  case neg =>
    rw [decide_eq_false y0, Bool.false_and, Bool.false_and]
    simp (disch := first | assumption | omega | (simp (disch := first | assumption | omega) only [sB, Nat.reduceAdd, Nat.reduceLT, Nat.reduceLeDiff, Nat.reduceEqDiff, Nat.reduceMul, ↓reduceIte]; done) | fail) only [sA, ↓reduceIte, Nat.reduceLT, Nat.reduceEqDiff, Nat.reduceAdd, Nat.reduceLeDiff, y0]
  subst y0
  rw [decide_eq_true rfl, Bool.true_and]
  by_cases y1 : ((a.kids.el.length : Nat) : Int) = ((b.kids.el.length : Nat) : Int)
  case neg =>
    rw [decide_eq_false (by omega), Bool.false_and, Bool.false_and]
    simp (disch := first | assumption | omega | (simp (disch := first | assumption | omega) only [sB, Nat.reduceAdd, Nat.reduceLT, Nat.reduceLeDiff, Nat.reduceEqDiff, Nat.reduceMul, ↓reduceIte]; done) | fail) only [sA, ↓reduceIte, Nat.reduceLT, Nat.reduceEqDiff, Nat.reduceAdd, Nat.reduceLeDiff, y1]
  have y1' : a.kids.el.length = b.kids.el.length := by omega
  have y1d : decide (((a.kids.el.length : Nat) : Int) = ((b.kids.el.length : Nat) : Int)) = true := decide_eq_true y1
  rw [decide_eq_true y1', Bool.true_and]
  replace tailK := fun {e : Tr} {n0 : Nat} {h' : Hps} {r : Re} => @tailK y1' e n0 h' r
  by_cases f1 : f = 1
  · subst f1
    rw [if_pos (Or.inl rfl)]
    by_cases y3 : a.n = b.n
    · rw [decide_eq_true y3, Bool.true_and]
      have y3d : decide (a.n = b.n) = true := decide_eq_true y3
      simp (disch := first | assumption | omega | (simp (disch := first | assumption | omega) only [sB, Nat.reduceAdd, Nat.reduceLT, Nat.reduceLeDiff, Nat.reduceEqDiff, Nat.reduceMul, ↓reduceIte]; done) | fail) only [sA, ↓reduceIte, Nat.reduceLT, Nat.reduceEqDiff, Nat.reduceAdd, Nat.reduceLeDiff, y1d, y3d]
      generalize hr : LX (cF Go.Proofs.Try.prog) (.loop l80_1) _ _ _ = r
      obtain ⟨x, e3, n3, h3, rfl, H3, q⟩ := tailK hr (H0.mono (by omega)) (by omega) (by simp (disch := first | assumption | omega | (simp (disch := first | assumption | omega) only [sB, Nat.reduceAdd, Nat.reduceLT, Nat.reduceLeDiff, Nat.reduceEqDiff, Nat.reduceMul, ↓reduceIte]; done) | fail) only [sA, ↓reduceIte, Nat.reduceLT, Nat.reduceEqDiff, Nat.reduceAdd, Nat.reduceLeDiff]) (by simp (disch := first | assumption | omega | (simp (disch := first | assumption | omega) only [sB, Nat.reduceAdd, Nat.reduceLT, Nat.reduceLeDiff, Nat.reduceEqDiff, Nat.reduceMul, ↓reduceIte]; done) | fail) only [sA, ↓reduceIte, Nat.reduceLT, Nat.reduceEqDiff, Nat.reduceAdd, Nat.reduceLeDiff]) (by simp (disch := first | assumption | omega | (simp (disch := first | assumption | omega) only [sB, Nat.reduceAdd, Nat.reduceLT, Nat.reduceLeDiff, Nat.reduceEqDiff, Nat.reduceMul, ↓reduceIte]; done) | fail) only [sA, ↓reduceIte, Nat.reduceLT, Nat.reduceEqDiff, Nat.reduceAdd, Nat.reduceLeDiff]) (by simp (disch := first | assumption | omega | (simp (disch := first | assumption | omega) only [sB, Nat.reduceAdd, Nat.reduceLT, Nat.reduceLeDiff, Nat.reduceEqDiff, Nat.reduceMul, ↓reduceIte]; done) | fail) only [sA, ↓reduceIte, Nat.reduceLT, Nat.reduceEqDiff, Nat.reduceAdd, Nat.reduceLeDiff]) (by simp (disch := first | assumption | omega | (simp (disch := first | assumption | omega) only [sB, Nat.reduceAdd, Nat.reduceLT, Nat.reduceLeDiff, Nat.reduceEqDiff, Nat.reduceMul, ↓reduceIte]; done) | fail) only [sA, ↓reduceIte, Nat.reduceLT, Nat.reduceEqDiff, Nat.reduceAdd, Nat.reduceLeDiff]) (by simp (disch := first | assumption | omega | (simp (disch := first | assumption | omega) only [sB, Nat.reduceAdd, Nat.reduceLT, Nat.reduceLeDiff, Nat.reduceEqDiff, Nat.reduceMul, ↓reduceIte]; done) | fail) only [sA, ↓reduceIte, Nat.reduceLT, Nat.reduceEqDiff, Nat.reduceAdd, Nat.reduceLeDiff])
      rcases q with ⟨rfl, hb⟩ | ⟨rfl, hb, g6⟩
      · rw [hb]
        simp (disch := first | assumption | omega | (simp (disch := first | assumption | omega) only [sB, Nat.reduceAdd, Nat.reduceLT, Nat.reduceLeDiff, Nat.reduceEqDiff, Nat.reduceMul, ↓reduceIte]; done) | fail) only [sA, ↓reduceIte, Nat.reduceLT, Nat.reduceEqDiff, Nat.reduceAdd, Nat.reduceLeDiff, finish_flat (d := .bool true) rfl (H3.mono (show n3 ≤ n3 + 1 by omega))]
      · rw [hb]
        simp (disch := first | assumption | omega | (simp (disch := first | assumption | omega) only [sB, Nat.reduceAdd, Nat.reduceLT, Nat.reduceLeDiff, Nat.reduceEqDiff, Nat.reduceMul, ↓reduceIte]; done) | fail) only [sA, ↓reduceIte, Nat.reduceLT, Nat.reduceEqDiff, Nat.reduceAdd, Nat.reduceLeDiff, g6, finish_flat (d := .bool false) rfl H3]
    · rw [decide_eq_false y3, Bool.false_and]
      simp (disch := first | assumption | omega | (simp (disch := first | assumption | omega) only [sB, Nat.reduceAdd, Nat.reduceLT, Nat.reduceLeDiff, Nat.reduceEqDiff, Nat.reduceMul, ↓reduceIte]; done) | fail) only [sA, ↓reduceIte, Nat.reduceLT, Nat.reduceEqDiff, Nat.reduceAdd, Nat.reduceLeDiff, y1d, y3]
  by_cases f11 : f = 11
  · subst f11
    rw [if_pos (Or.inr rfl)]
    by_cases y3 : a.n = b.n
    · rw [decide_eq_true y3, Bool.true_and]
      have y3d : decide (a.n = b.n) = true := decide_eq_true y3
      simp (disch := first | assumption | omega | (simp (disch := first | assumption | omega) only [sB, Nat.reduceAdd, Nat.reduceLT, Nat.reduceLeDiff, Nat.reduceEqDiff, Nat.reduceMul, ↓reduceIte]; done) | fail) only [sA, ↓reduceIte, Nat.reduceLT, Nat.reduceEqDiff, Nat.reduceAdd, Nat.reduceLeDiff, y1d, y3d]
      generalize hr : LX (cF Go.Proofs.Try.prog) (.loop l80_1) _ _ _ = r
      obtain ⟨x, e3, n3, h3, rfl, H3, q⟩ := tailK hr (H0.mono (by omega)) (by omega) (by simp (disch := first | assumption | omega | (simp (disch := first | assumption | omega) only [sB, Nat.reduceAdd, Nat.reduceLT, Nat.reduceLeDiff, Nat.reduceEqDiff, Nat.reduceMul, ↓reduceIte]; done) | fail) only [sA, ↓reduceIte, Nat.reduceLT, Nat.reduceEqDiff, Nat.reduceAdd, Nat.reduceLeDiff]) (by simp (disch := first | assumption | omega | (simp (disch := first | assumption | omega) only [sB, Nat.reduceAdd, Nat.reduceLT, Nat.reduceLeDiff, Nat.reduceEqDiff, Nat.reduceMul, ↓reduceIte]; done) | fail) only [sA, ↓reduceIte, Nat.reduceLT, Nat.reduceEqDiff, Nat.reduceAdd, Nat.reduceLeDiff]) (by simp (disch := first | assumption | omega | (simp (disch := first | assumption | omega) only [sB, Nat.reduceAdd, Nat.reduceLT, Nat.reduceLeDiff, Nat.reduceEqDiff, Nat.reduceMul, ↓reduceIte]; done) | fail) only [sA, ↓reduceIte, Nat.reduceLT, Nat.reduceEqDiff, Nat.reduceAdd, Nat.reduceLeDiff]) (by simp (disch := first | assumption | omega | (simp (disch := first | assumption | omega) only [sB, Nat.reduceAdd, Nat.reduceLT, Nat.reduceLeDiff, Nat.reduceEqDiff, Nat.reduceMul, ↓reduceIte]; done) | fail) only [sA, ↓reduceIte, Nat.reduceLT, Nat.reduceEqDiff, Nat.reduceAdd, Nat.reduceLeDiff]) (by simp (disch := first | assumption | omega | (simp (disch := first | assumption | omega) only [sB, Nat.reduceAdd, Nat.reduceLT, Nat.reduceLeDiff, Nat.reduceEqDiff, Nat.reduceMul, ↓reduceIte]; done) | fail) only [sA, ↓reduceIte, Nat.reduceLT, Nat.reduceEqDiff, Nat.reduceAdd, Nat.reduceLeDiff]) (by simp (disch := first | assumption | omega | (simp (disch := first | assumption | omega) only [sB, Nat.reduceAdd, Nat.reduceLT, Nat.reduceLeDiff, Nat.reduceEqDiff, Nat.reduceMul, ↓reduceIte]; done) | fail) only [sA, ↓reduceIte, Nat.reduceLT, Nat.reduceEqDiff, Nat.reduceAdd, Nat.reduceLeDiff])
      rcases q with ⟨rfl, hb⟩ | ⟨rfl, hb, g6⟩
      · rw [hb]
        simp (disch := first | assumption | omega | (simp (disch := first | assumption | omega) only [sB, Nat.reduceAdd, Nat.reduceLT, Nat.reduceLeDiff, Nat.reduceEqDiff, Nat.reduceMul, ↓reduceIte]; done) | fail) only [sA, ↓reduceIte, Nat.reduceLT, Nat.reduceEqDiff, Nat.reduceAdd, Nat.reduceLeDiff, finish_flat (d := .bool true) rfl (H3.mono (show n3 ≤ n3 + 1 by omega))]
      · rw [hb]
        simp (disch := first | assumption | omega | (simp (disch := first | assumption | omega) only [sB, Nat.reduceAdd, Nat.reduceLT, Nat.reduceLeDiff, Nat.reduceEqDiff, Nat.reduceMul, ↓reduceIte]; done) | fail) only [sA, ↓reduceIte, Nat.reduceLT, Nat.reduceEqDiff, Nat.reduceAdd, Nat.reduceLeDiff, g6, finish_flat (d := .bool false) rfl H3]
    · rw [decide_eq_false y3, Bool.false_and]
      simp (disch := first | assumption | omega | (simp (disch := first | assumption | omega) only [sB, Nat.reduceAdd, Nat.reduceLT, Nat.reduceLeDiff, Nat.reduceEqDiff, Nat.reduceMul, ↓reduceIte]; done) | fail) only [sA, ↓reduceIte, Nat.reduceLT, Nat.reduceEqDiff, Nat.reduceAdd, Nat.reduceLeDiff, y1d, y3]
  rw [if_neg (by omega)]
  by_cases f3 : f = 3
  · subst f3
    rw [if_pos (Or.inl rfl)]
    cases hid with
    | false =>
      rw [Bool.not_false, Bool.true_or, Bool.true_and]
      simp (disch := first | assumption | omega | (simp (disch := first | assumption | omega) only [sB, Nat.reduceAdd, Nat.reduceLT, Nat.reduceLeDiff, Nat.reduceEqDiff, Nat.reduceMul, ↓reduceIte]; done) | fail) only [sA, ↓reduceIte, Nat.reduceLT, Nat.reduceEqDiff, Nat.reduceAdd, Nat.reduceLeDiff, y1d]
      generalize hr : LX (cF Go.Proofs.Try.prog) (.loop l80_1) _ _ _ = r
      obtain ⟨x, e3, n3, h3, rfl, H3, q⟩ := tailK hr (H0.mono (by omega)) (by omega) (by simp (disch := first | assumption | omega | (simp (disch := first | assumption | omega) only [sB, Nat.reduceAdd, Nat.reduceLT, Nat.reduceLeDiff, Nat.reduceEqDiff, Nat.reduceMul, ↓reduceIte]; done) | fail) only [sA, ↓reduceIte, Nat.reduceLT, Nat.reduceEqDiff, Nat.reduceAdd, Nat.reduceLeDiff]) (by simp (disch := first | assumption | omega | (simp (disch := first | assumption | omega) only [sB, Nat.reduceAdd, Nat.reduceLT, Nat.reduceLeDiff, Nat.reduceEqDiff, Nat.reduceMul, ↓reduceIte]; done) | fail) only [sA, ↓reduceIte, Nat.reduceLT, Nat.reduceEqDiff, Nat.reduceAdd, Nat.reduceLeDiff]) (by simp (disch := first | assumption | omega | (simp (disch := first | assumption | omega) only [sB, Nat.reduceAdd, Nat.reduceLT, Nat.reduceLeDiff, Nat.reduceEqDiff, Nat.reduceMul, ↓reduceIte]; done) | fail) only [sA, ↓reduceIte, Nat.reduceLT, Nat.reduceEqDiff, Nat.reduceAdd, Nat.reduceLeDiff]) (by simp (disch := first | assumption | omega | (simp (disch := first | assumption | omega) only [sB, Nat.reduceAdd, Nat.reduceLT, Nat.reduceLeDiff, Nat.reduceEqDiff, Nat.reduceMul, ↓reduceIte]; done) | fail) only [sA, ↓reduceIte, Nat.reduceLT, Nat.reduceEqDiff, Nat.reduceAdd, Nat.reduceLeDiff]) (by simp (disch := first | assumption | omega | (simp (disch := first | assumption | omega) only [sB, Nat.reduceAdd, Nat.reduceLT, Nat.reduceLeDiff, Nat.reduceEqDiff, Nat.reduceMul, ↓reduceIte]; done) | fail) only [sA, ↓reduceIte, Nat.reduceLT, Nat.reduceEqDiff, Nat.reduceAdd, Nat.reduceLeDiff]) (by simp (disch := first | assumption | omega | (simp (disch := first | assumption | omega) only [sB, Nat.reduceAdd, Nat.reduceLT, Nat.reduceLeDiff, Nat.reduceEqDiff, Nat.reduceMul, ↓reduceIte]; done) | fail) only [sA, ↓reduceIte, Nat.reduceLT, Nat.reduceEqDiff, Nat.reduceAdd, Nat.reduceLeDiff])
      rcases q with ⟨rfl, hb⟩ | ⟨rfl, hb, g6⟩
      · rw [hb]
        simp (disch := first | assumption | omega | (simp (disch := first | assumption | omega) only [sB, Nat.reduceAdd, Nat.reduceLT, Nat.reduceLeDiff, Nat.reduceEqDiff, Nat.reduceMul, ↓reduceIte]; done) | fail) only [sA, ↓reduceIte, Nat.reduceLT, Nat.reduceEqDiff, Nat.reduceAdd, Nat.reduceLeDiff, finish_flat (d := .bool true) rfl (H3.mono (show n3 ≤ n3 + 1 by omega))]
      · rw [hb]
        simp (disch := first | assumption | omega | (simp (disch := first | assumption | omega) only [sB, Nat.reduceAdd, Nat.reduceLT, Nat.reduceLeDiff, Nat.reduceEqDiff, Nat.reduceMul, ↓reduceIte]; done) | fail) only [sA, ↓reduceIte, Nat.reduceLT, Nat.reduceEqDiff, Nat.reduceAdd, Nat.reduceLeDiff, g6, finish_flat (d := .bool false) rfl H3]
    | true =>
      rw [Bool.not_true, Bool.false_or]
      by_cases y3 : a.hid = b.hid
      · rw [decide_eq_true y3, Bool.true_and]
        have y3d : (a.hid == b.hid) = true := by rw [y3]; exact beq_self_eq_true _
        simp (disch := first | assumption | omega | (simp (disch := first | assumption | omega) only [sB, Nat.reduceAdd, Nat.reduceLT, Nat.reduceLeDiff, Nat.reduceEqDiff, Nat.reduceMul, ↓reduceIte]; done) | fail) only [sA, ↓reduceIte, Nat.reduceLT, Nat.reduceEqDiff, Nat.reduceAdd, Nat.reduceLeDiff, y1d, y3d]
        generalize hr : LX (cF Go.Proofs.Try.prog) (.loop l80_1) _ _ _ = r
        obtain ⟨x, e3, n3, h3, rfl, H3, q⟩ := tailK hr (H0.mono (by omega)) (by omega) (by simp (disch := first | assumption | omega | (simp (disch := first | assumption | omega) only [sB, Nat.reduceAdd, Nat.reduceLT, Nat.reduceLeDiff, Nat.reduceEqDiff, Nat.reduceMul, ↓reduceIte]; done) | fail) only [sA, ↓reduceIte, Nat.reduceLT, Nat.reduceEqDiff, Nat.reduceAdd, Nat.reduceLeDiff]) (by simp (disch := first | assumption | omega | (simp (disch := first | assumption | omega) only [sB, Nat.reduceAdd, Nat.reduceLT, Nat.reduceLeDiff, Nat.reduceEqDiff, Nat.reduceMul, ↓reduceIte]; done) | fail) only [sA, ↓reduceIte, Nat.reduceLT, Nat.reduceEqDiff, Nat.reduceAdd, Nat.reduceLeDiff]) (by simp (disch := first | assumption | omega | (simp (disch := first | assumption | omega) only [sB, Nat.reduceAdd, Nat.reduceLT, Nat.reduceLeDiff, Nat.reduceEqDiff, Nat.reduceMul, ↓reduceIte]; done) | fail) only [sA, ↓reduceIte, Nat.reduceLT, Nat.reduceEqDiff, Nat.reduceAdd, Nat.reduceLeDiff]) (by simp (disch := first | assumption | omega | (simp (disch := first | assumption | omega) only [sB, Nat.reduceAdd, Nat.reduceLT, Nat.reduceLeDiff, Nat.reduceEqDiff, Nat.reduceMul, ↓reduceIte]; done) | fail) only [sA, ↓reduceIte, Nat.reduceLT, Nat.reduceEqDiff, Nat.reduceAdd, Nat.reduceLeDiff]) (by simp (disch := first | assumption | omega | (simp (disch := first | assumption | omega) only [sB, Nat.reduceAdd, Nat.reduceLT, Nat.reduceLeDiff, Nat.reduceEqDiff, Nat.reduceMul, ↓reduceIte]; done) | fail) only [sA, ↓reduceIte, Nat.reduceLT, Nat.reduceEqDiff, Nat.reduceAdd, Nat.reduceLeDiff]) (by simp (disch := first | assumption | omega | (simp (disch := first | assumption | omega) only [sB, Nat.reduceAdd, Nat.reduceLT, Nat.reduceLeDiff, Nat.reduceEqDiff, Nat.reduceMul, ↓reduceIte]; done) | fail) only [sA, ↓reduceIte, Nat.reduceLT, Nat.reduceEqDiff, Nat.reduceAdd, Nat.reduceLeDiff])
        rcases q with ⟨rfl, hb⟩ | ⟨rfl, hb, g6⟩
        · rw [hb]
          simp (disch := first | assumption | omega | (simp (disch := first | assumption | omega) only [sB, Nat.reduceAdd, Nat.reduceLT, Nat.reduceLeDiff, Nat.reduceEqDiff, Nat.reduceMul, ↓reduceIte]; done) | fail) only [sA, ↓reduceIte, Nat.reduceLT, Nat.reduceEqDiff, Nat.reduceAdd, Nat.reduceLeDiff, finish_flat (d := .bool true) rfl (H3.mono (show n3 ≤ n3 + 1 by omega))]
        · rw [hb]
          simp (disch := first | assumption | omega | (simp (disch := first | assumption | omega) only [sB, Nat.reduceAdd, Nat.reduceLT, Nat.reduceLeDiff, Nat.reduceEqDiff, Nat.reduceMul, ↓reduceIte]; done) | fail) only [sA, ↓reduceIte, Nat.reduceLT, Nat.reduceEqDiff, Nat.reduceAdd, Nat.reduceLeDiff, g6, finish_flat (d := .bool false) rfl H3]
      · rw [decide_eq_false y3, Bool.false_and]
        have y3d : (a.hid == b.hid) = false := beq_eq_false_iff_ne.2 y3
        simp (disch := first | assumption | omega | (simp (disch := first | assumption | omega) only [sB, Nat.reduceAdd, Nat.reduceLT, Nat.reduceLeDiff, Nat.reduceEqDiff, Nat.reduceMul, ↓reduceIte]; done) | fail) only [sA, ↓reduceIte, Nat.reduceLT, Nat.reduceEqDiff, Nat.reduceAdd, Nat.reduceLeDiff, y1d, y3d]
  by_cases f4 : f = 4
  · subst f4
    rw [if_pos (Or.inr (Or.inl rfl))]
    cases hid with
    | false =>
      rw [Bool.not_false, Bool.true_or, Bool.true_and]
      simp (disch := first | assumption | omega | (simp (disch := first | assumption | omega) only [sB, Nat.reduceAdd, Nat.reduceLT, Nat.reduceLeDiff, Nat.reduceEqDiff, Nat.reduceMul, ↓reduceIte]; done) | fail) only [sA, ↓reduceIte, Nat.reduceLT, Nat.reduceEqDiff, Nat.reduceAdd, Nat.reduceLeDiff, y1d]
      generalize hr : LX (cF Go.Proofs.Try.prog) (.loop l80_1) _ _ _ = r
      obtain ⟨x, e3, n3, h3, rfl, H3, q⟩ := tailK hr (H0.mono (by omega)) (by omega) (by simp (disch := first | assumption | omega | (simp (disch := first | assumption | omega) only [sB, Nat.reduceAdd, Nat.reduceLT, Nat.reduceLeDiff, Nat.reduceEqDiff, Nat.reduceMul, ↓reduceIte]; done) | fail) only [sA, ↓reduceIte, Nat.reduceLT, Nat.reduceEqDiff, Nat.reduceAdd, Nat.reduceLeDiff]) (by simp (disch := first | assumption | omega | (simp (disch := first | assumption | omega) only [sB, Nat.reduceAdd, Nat.reduceLT, Nat.reduceLeDiff, Nat.reduceEqDiff, Nat.reduceMul, ↓reduceIte]; done) | fail) only [sA, ↓reduceIte, Nat.reduceLT, Nat.reduceEqDiff, Nat.reduceAdd, Nat.reduceLeDiff]) (by simp (disch := first | assumption | omega | (simp (disch := first | assumption | omega) only [sB, Nat.reduceAdd, Nat.reduceLT, Nat.reduceLeDiff, Nat.reduceEqDiff, Nat.reduceMul, ↓reduceIte]; done) | fail) only [sA, ↓reduceIte, Nat.reduceLT, Nat.reduceEqDiff, Nat.reduceAdd, Nat.reduceLeDiff]) (by simp (disch := first | assumption | omega | (simp (disch := first | assumption | omega) only [sB, Nat.reduceAdd, Nat.reduceLT, Nat.reduceLeDiff, Nat.reduceEqDiff, Nat.reduceMul, ↓reduceIte]; done) | fail) only [sA, ↓reduceIte, Nat.reduceLT, Nat.reduceEqDiff, Nat.reduceAdd, Nat.reduceLeDiff]) (by simp (disch := first | assumption | omega | (simp (disch := first | assumption | omega) only [sB, Nat.reduceAdd, Nat.reduceLT, Nat.reduceLeDiff, Nat.reduceEqDiff, Nat.reduceMul, ↓reduceIte]; done) | fail) only [sA, ↓reduceIte, Nat.reduceLT, Nat.reduceEqDiff, Nat.reduceAdd, Nat.reduceLeDiff]) (by simp (disch := first | assumption | omega | (simp (disch := first | assumption | omega) only [sB, Nat.reduceAdd, Nat.reduceLT, Nat.reduceLeDiff, Nat.reduceEqDiff, Nat.reduceMul, ↓reduceIte]; done) | fail) only [sA, ↓reduceIte, Nat.reduceLT, Nat.reduceEqDiff, Nat.reduceAdd, Nat.reduceLeDiff])
      rcases q with ⟨rfl, hb⟩ | ⟨rfl, hb, g6⟩
      · rw [hb]
        simp (disch := first | assumption | omega | (simp (disch := first | assumption | omega) only [sB, Nat.reduceAdd, Nat.reduceLT, Nat.reduceLeDiff, Nat.reduceEqDiff, Nat.reduceMul, ↓reduceIte]; done) | fail) only [sA, ↓reduceIte, Nat.reduceLT, Nat.reduceEqDiff, Nat.reduceAdd, Nat.reduceLeDiff, finish_flat (d := .bool true) rfl (H3.mono (show n3 ≤ n3 + 1 by omega))]
      · rw [hb]
        simp (disch := first | assumption | omega | (simp (disch := first | assumption | omega) only [sB, Nat.reduceAdd, Nat.reduceLT, Nat.reduceLeDiff, Nat.reduceEqDiff, Nat.reduceMul, ↓reduceIte]; done) | fail) only [sA, ↓reduceIte, Nat.reduceLT, Nat.reduceEqDiff, Nat.reduceAdd, Nat.reduceLeDiff, g6, finish_flat (d := .bool false) rfl H3]
    | true =>
      rw [Bool.not_true, Bool.false_or]
      by_cases y3 : a.hid = b.hid
      · rw [decide_eq_true y3, Bool.true_and]
        have y3d : (a.hid == b.hid) = true := by rw [y3]; exact beq_self_eq_true _
        simp (disch := first | assumption | omega | (simp (disch := first | assumption | omega) only [sB, Nat.reduceAdd, Nat.reduceLT, Nat.reduceLeDiff, Nat.reduceEqDiff, Nat.reduceMul, ↓reduceIte]; done) | fail) only [sA, ↓reduceIte, Nat.reduceLT, Nat.reduceEqDiff, Nat.reduceAdd, Nat.reduceLeDiff, y1d, y3d]
        generalize hr : LX (cF Go.Proofs.Try.prog) (.loop l80_1) _ _ _ = r
        obtain ⟨x, e3, n3, h3, rfl, H3, q⟩ := tailK hr (H0.mono (by omega)) (by omega) (by simp (disch := first | assumption | omega | (simp (disch := first | assumption | omega) only [sB, Nat.reduceAdd, Nat.reduceLT, Nat.reduceLeDiff, Nat.reduceEqDiff, Nat.reduceMul, ↓reduceIte]; done) | fail) only [sA, ↓reduceIte, Nat.reduceLT, Nat.reduceEqDiff, Nat.reduceAdd, Nat.reduceLeDiff]) (by simp (disch := first | assumption | omega | (simp (disch := first | assumption | omega) only [sB, Nat.reduceAdd, Nat.reduceLT, Nat.reduceLeDiff, Nat.reduceEqDiff, Nat.reduceMul, ↓reduceIte]; done) | fail) only [sA, ↓reduceIte, Nat.reduceLT, Nat.reduceEqDiff, Nat.reduceAdd, Nat.reduceLeDiff]) (by simp (disch := first | assumption | omega | (simp (disch := first | assumption | omega) only [sB, Nat.reduceAdd, Nat.reduceLT, Nat.reduceLeDiff, Nat.reduceEqDiff, Nat.reduceMul, ↓reduceIte]; done) | fail) only [sA, ↓reduceIte, Nat.reduceLT, Nat.reduceEqDiff, Nat.reduceAdd, Nat.reduceLeDiff]) (by simp (disch := first | assumption | omega | (simp (disch := first | assumption | omega) only [sB, Nat.reduceAdd, Nat.reduceLT, Nat.reduceLeDiff, Nat.reduceEqDiff, Nat.reduceMul, ↓reduceIte]; done) | fail) only [sA, ↓reduceIte, Nat.reduceLT, Nat.reduceEqDiff, Nat.reduceAdd, Nat.reduceLeDiff]) (by simp (disch := first | assumption | omega | (simp (disch := first | assumption | omega) only [sB, Nat.reduceAdd, Nat.reduceLT, Nat.reduceLeDiff, Nat.reduceEqDiff, Nat.reduceMul, ↓reduceIte]; done) | fail) only [sA, ↓reduceIte, Nat.reduceLT, Nat.reduceEqDiff, Nat.reduceAdd, Nat.reduceLeDiff]) (by simp (disch := first | assumption | omega | (simp (disch := first | assumption | omega) only [sB, Nat.reduceAdd, Nat.reduceLT, Nat.reduceLeDiff, Nat.reduceEqDiff, Nat.reduceMul, ↓reduceIte]; done) | fail) only [sA, ↓reduceIte, Nat.reduceLT, Nat.reduceEqDiff, Nat.reduceAdd, Nat.reduceLeDiff])
        rcases q with ⟨rfl, hb⟩ | ⟨rfl, hb, g6⟩
        · rw [hb]
          simp (disch := first | assumption | omega | (simp (disch := first | assumption | omega) only [sB, Nat.reduceAdd, Nat.reduceLT, Nat.reduceLeDiff, Nat.reduceEqDiff, Nat.reduceMul, ↓reduceIte]; done) | fail) only [sA, ↓reduceIte, Nat.reduceLT, Nat.reduceEqDiff, Nat.reduceAdd, Nat.reduceLeDiff, finish_flat (d := .bool true) rfl (H3.mono (show n3 ≤ n3 + 1 by omega))]
        · rw [hb]
          simp (disch := first | assumption | omega | (simp (disch := first | assumption | omega) only [sB, Nat.reduceAdd, Nat.reduceLT, Nat.reduceLeDiff, Nat.reduceEqDiff, Nat.reduceMul, ↓reduceIte]; done) | fail) only [sA, ↓reduceIte, Nat.reduceLT, Nat.reduceEqDiff, Nat.reduceAdd, Nat.reduceLeDiff, g6, finish_flat (d := .bool false) rfl H3]
      · rw [decide_eq_false y3, Bool.false_and]
        have y3d : (a.hid == b.hid) = false := beq_eq_false_iff_ne.2 y3
        simp (disch := first | assumption | omega | (simp (disch := first | assumption | omega) only [sB, Nat.reduceAdd, Nat.reduceLT, Nat.reduceLeDiff, Nat.reduceEqDiff, Nat.reduceMul, ↓reduceIte]; done) | fail) only [sA, ↓reduceIte, Nat.reduceLT, Nat.reduceEqDiff, Nat.reduceAdd, Nat.reduceLeDiff, y1d, y3d]
  by_cases f5 : f = 5
  · subst f5
    rw [if_pos (Or.inr (Or.inr rfl))]
    cases hid with
    | false =>
      rw [Bool.not_false, Bool.true_or, Bool.true_and]
      simp (disch := first | assumption | omega | (simp (disch := first | assumption | omega) only [sB, Nat.reduceAdd, Nat.reduceLT, Nat.reduceLeDiff, Nat.reduceEqDiff, Nat.reduceMul, ↓reduceIte]; done) | fail) only [sA, ↓reduceIte, Nat.reduceLT, Nat.reduceEqDiff, Nat.reduceAdd, Nat.reduceLeDiff, y1d]
      generalize hr : LX (cF Go.Proofs.Try.prog) (.loop l80_1) _ _ _ = r
      obtain ⟨x, e3, n3, h3, rfl, H3, q⟩ := tailK hr (H0.mono (by omega)) (by omega) (by simp (disch := first | assumption | omega | (simp (disch := first | assumption | omega) only [sB, Nat.reduceAdd, Nat.reduceLT, Nat.reduceLeDiff, Nat.reduceEqDiff, Nat.reduceMul, ↓reduceIte]; done) | fail) only [sA, ↓reduceIte, Nat.reduceLT, Nat.reduceEqDiff, Nat.reduceAdd, Nat.reduceLeDiff]) (by simp (disch := first | assumption | omega | (simp (disch := first | assumption | omega) only [sB, Nat.reduceAdd, Nat.reduceLT, Nat.reduceLeDiff, Nat.reduceEqDiff, Nat.reduceMul, ↓reduceIte]; done) | fail) only [sA, ↓reduceIte, Nat.reduceLT, Nat.reduceEqDiff, Nat.reduceAdd, Nat.reduceLeDiff]) (by simp (disch := first | assumption | omega | (simp (disch := first | assumption | omega) only [sB, Nat.reduceAdd, Nat.reduceLT, Nat.reduceLeDiff, Nat.reduceEqDiff, Nat.reduceMul, ↓reduceIte]; done) | fail) only [sA, ↓reduceIte, Nat.reduceLT, Nat.reduceEqDiff, Nat.reduceAdd, Nat.reduceLeDiff]) (by simp (disch := first | assumption | omega | (simp (disch := first | assumption | omega) only [sB, Nat.reduceAdd, Nat.reduceLT, Nat.reduceLeDiff, Nat.reduceEqDiff, Nat.reduceMul, ↓reduceIte]; done) | fail) only [sA, ↓reduceIte, Nat.reduceLT, Nat.reduceEqDiff, Nat.reduceAdd, Nat.reduceLeDiff]) (by simp (disch := first | assumption | omega | (simp (disch := first | assumption | omega) only [sB, Nat.reduceAdd, Nat.reduceLT, Nat.reduceLeDiff, Nat.reduceEqDiff, Nat.reduceMul, ↓reduceIte]; done) | fail) only [sA, ↓reduceIte, Nat.reduceLT, Nat.reduceEqDiff, Nat.reduceAdd, Nat.reduceLeDiff]) (by simp (disch := first | assumption | omega | (simp (disch := first | assumption | omega) only [sB, Nat.reduceAdd, Nat.reduceLT, Nat.reduceLeDiff, Nat.reduceEqDiff, Nat.reduceMul, ↓reduceIte]; done) | fail) only [sA, ↓reduceIte, Nat.reduceLT, Nat.reduceEqDiff, Nat.reduceAdd, Nat.reduceLeDiff])
      rcases q with ⟨rfl, hb⟩ | ⟨rfl, hb, g6⟩
      · rw [hb]
        simp (disch := first | assumption | omega | (simp (disch := first | assumption | omega) only [sB, Nat.reduceAdd, Nat.reduceLT, Nat.reduceLeDiff, Nat.reduceEqDiff, Nat.reduceMul, ↓reduceIte]; done) | fail) only [sA, ↓reduceIte, Nat.reduceLT, Nat.reduceEqDiff, Nat.reduceAdd, Nat.reduceLeDiff, finish_flat (d := .bool true) rfl (H3.mono (show n3 ≤ n3 + 1 by omega))]
      · rw [hb]
        simp (disch := first | assumption | omega | (simp (disch := first | assumption | omega) only [sB, Nat.reduceAdd, Nat.reduceLT, Nat.reduceLeDiff, Nat.reduceEqDiff, Nat.reduceMul, ↓reduceIte]; done) | fail) only [sA, ↓reduceIte, Nat.reduceLT, Nat.reduceEqDiff, Nat.reduceAdd, Nat.reduceLeDiff, g6, finish_flat (d := .bool false) rfl H3]
    | true =>
      rw [Bool.not_true, Bool.false_or]
      by_cases y3 : a.hid = b.hid
      · rw [decide_eq_true y3, Bool.true_and]
        have y3d : (a.hid == b.hid) = true := by rw [y3]; exact beq_self_eq_true _
        simp (disch := first | assumption | omega | (simp (disch := first | assumption | omega) only [sB, Nat.reduceAdd, Nat.reduceLT, Nat.reduceLeDiff, Nat.reduceEqDiff, Nat.reduceMul, ↓reduceIte]; done) | fail) only [sA, ↓reduceIte, Nat.reduceLT, Nat.reduceEqDiff, Nat.reduceAdd, Nat.reduceLeDiff, y1d, y3d]
        generalize hr : LX (cF Go.Proofs.Try.prog) (.loop l80_1) _ _ _ = r
        obtain ⟨x, e3, n3, h3, rfl, H3, q⟩ := tailK hr (H0.mono (by omega)) (by omega) (by simp (disch := first | assumption | omega | (simp (disch := first | assumption | omega) only [sB, Nat.reduceAdd, Nat.reduceLT, Nat.reduceLeDiff, Nat.reduceEqDiff, Nat.reduceMul, ↓reduceIte]; done) | fail) only [sA, ↓reduceIte, Nat.reduceLT, Nat.reduceEqDiff, Nat.reduceAdd, Nat.reduceLeDiff]) (by simp (disch := first | assumption | omega | (simp (disch := first | assumption | omega) only [sB, Nat.reduceAdd, Nat.reduceLT, Nat.reduceLeDiff, Nat.reduceEqDiff, Nat.reduceMul, ↓reduceIte]; done) | fail) only [sA, ↓reduceIte, Nat.reduceLT, Nat.reduceEqDiff, Nat.reduceAdd, Nat.reduceLeDiff]) (by simp (disch := first | assumption | omega | (simp (disch := first | assumption | omega) only [sB, Nat.reduceAdd, Nat.reduceLT, Nat.reduceLeDiff, Nat.reduceEqDiff, Nat.reduceMul, ↓reduceIte]; done) | fail) only [sA, ↓reduceIte, Nat.reduceLT, Nat.reduceEqDiff, Nat.reduceAdd, Nat.reduceLeDiff]) (by simp (disch := first | assumption | omega | (simp (disch := first | assumption | omega) only [sB, Nat.reduceAdd, Nat.reduceLT, Nat.reduceLeDiff, Nat.reduceEqDiff, Nat.reduceMul, ↓reduceIte]; done) | fail) only [sA, ↓reduceIte, Nat.reduceLT, Nat.reduceEqDiff, Nat.reduceAdd, Nat.reduceLeDiff]) (by simp (disch := first | assumption | omega | (simp (disch := first | assumption | omega) only [sB, Nat.reduceAdd, Nat.reduceLT, Nat.reduceLeDiff, Nat.reduceEqDiff, Nat.reduceMul, ↓reduceIte]; done) | fail) only [sA, ↓reduceIte, Nat.reduceLT, Nat.reduceEqDiff, Nat.reduceAdd, Nat.reduceLeDiff]) (by simp (disch := first | assumption | omega | (simp (disch := first | assumption | omega) only [sB, Nat.reduceAdd, Nat.reduceLT, Nat.reduceLeDiff, Nat.reduceEqDiff, Nat.reduceMul, ↓reduceIte]; done) | fail) only [sA, ↓reduceIte, Nat.reduceLT, Nat.reduceEqDiff, Nat.reduceAdd, Nat.reduceLeDiff])
        rcases q with ⟨rfl, hb⟩ | ⟨rfl, hb, g6⟩
        · rw [hb]
          simp (disch := first | assumption | omega | (simp (disch := first | assumption | omega) only [sB, Nat.reduceAdd, Nat.reduceLT, Nat.reduceLeDiff, Nat.reduceEqDiff, Nat.reduceMul, ↓reduceIte]; done) | fail) only [sA, ↓reduceIte, Nat.reduceLT, Nat.reduceEqDiff, Nat.reduceAdd, Nat.reduceLeDiff, finish_flat (d := .bool true) rfl (H3.mono (show n3 ≤ n3 + 1 by omega))]
        · rw [hb]
          simp (disch := first | assumption | omega | (simp (disch := first | assumption | omega) only [sB, Nat.reduceAdd, Nat.reduceLT, Nat.reduceLeDiff, Nat.reduceEqDiff, Nat.reduceMul, ↓reduceIte]; done) | fail) only [sA, ↓reduceIte, Nat.reduceLT, Nat.reduceEqDiff, Nat.reduceAdd, Nat.reduceLeDiff, g6, finish_flat (d := .bool false) rfl H3]
      · rw [decide_eq_false y3, Bool.false_and]
        have y3d : (a.hid == b.hid) = false := beq_eq_false_iff_ne.2 y3
        simp (disch := first | assumption | omega | (simp (disch := first | assumption | omega) only [sB, Nat.reduceAdd, Nat.reduceLT, Nat.reduceLeDiff, Nat.reduceEqDiff, Nat.reduceMul, ↓reduceIte]; done) | fail) only [sA, ↓reduceIte, Nat.reduceLT, Nat.reduceEqDiff, Nat.reduceAdd, Nat.reduceLeDiff, y1d, y3d]
  rw [if_neg (by omega)]
  by_cases f2 : f = 2
  · subst f2
    rw [if_pos rfl]
    by_cases y4 : ((a.levels.el.length : Nat) : Int) = ((b.levels.el.length : Nat) : Int)
    · have y4d : decide (((a.levels.el.length : Nat) : Int) = ((b.levels.el.length : Nat) : Int)) = true := decide_eq_true y4
      simp (disch := first | assumption | omega | (simp (disch := first | assumption | omega) only [sB, Nat.reduceAdd, Nat.reduceLT, Nat.reduceLeDiff, Nat.reduceEqDiff, Nat.reduceMul, ↓reduceIte]; done) | fail) only [sA, ↓reduceIte, Nat.reduceLT, Nat.reduceEqDiff, Nat.reduceAdd, Nat.reduceLeDiff, y1d, y4d]
      generalize hr : LX (cF Go.Proofs.Try.prog) (.loop l80_0) _ _ _ = r
      obtain ⟨x, e2, n2, h2, rfl, H2, p2, b3, b4, q⟩ := tailL (Or.inl rfl) rfl (by omega) hr (H0.mono (by omega)) (by omega) (by simp (disch := first | assumption | omega | (simp (disch := first | assumption | omega) only [sB, Nat.reduceAdd, Nat.reduceLT, Nat.reduceLeDiff, Nat.reduceEqDiff, Nat.reduceMul, ↓reduceIte]; done) | fail) only [sA, ↓reduceIte, Nat.reduceLT, Nat.reduceEqDiff, Nat.reduceAdd, Nat.reduceLeDiff]) (by simp (disch := first | assumption | omega | (simp (disch := first | assumption | omega) only [sB, Nat.reduceAdd, Nat.reduceLT, Nat.reduceLeDiff, Nat.reduceEqDiff, Nat.reduceMul, ↓reduceIte]; done) | fail) only [sA, ↓reduceIte, Nat.reduceLT, Nat.reduceEqDiff, Nat.reduceAdd, Nat.reduceLeDiff]) (by simp (disch := first | assumption | omega | (simp (disch := first | assumption | omega) only [sB, Nat.reduceAdd, Nat.reduceLT, Nat.reduceLeDiff, Nat.reduceEqDiff, Nat.reduceMul, ↓reduceIte]; done) | fail) only [sA, ↓reduceIte, Nat.reduceLT, Nat.reduceEqDiff, Nat.reduceAdd, Nat.reduceLeDiff]) (by simp (disch := first | assumption | omega | (simp (disch := first | assumption | omega) only [sB, Nat.reduceAdd, Nat.reduceLT, Nat.reduceLeDiff, Nat.reduceEqDiff, Nat.reduceMul, ↓reduceIte]; done) | fail) only [sA, ↓reduceIte, Nat.reduceLT, Nat.reduceEqDiff, Nat.reduceAdd, Nat.reduceLeDiff]) (by simp (disch := first | assumption | omega | (simp (disch := first | assumption | omega) only [sB, Nat.reduceAdd, Nat.reduceLT, Nat.reduceLeDiff, Nat.reduceEqDiff, Nat.reduceMul, ↓reduceIte]; done) | fail) only [sA, ↓reduceIte, Nat.reduceLT, Nat.reduceEqDiff, Nat.reduceAdd, Nat.reduceLeDiff]) (by simp (disch := first | assumption | omega | (simp (disch := first | assumption | omega) only [sB, Nat.reduceAdd, Nat.reduceLT, Nat.reduceLeDiff, Nat.reduceEqDiff, Nat.reduceMul, ↓reduceIte]; done) | fail) only [sA, ↓reduceIte, Nat.reduceLT, Nat.reduceEqDiff, Nat.reduceAdd, Nat.reduceLeDiff])
      rcases q with ⟨rfl, hb0, k2, k3, k4⟩ | ⟨rfl, hb0, k6⟩
      case inr =>
        rw [hb0, Bool.false_and]
        simp (disch := first | assumption | omega | (simp (disch := first | assumption | omega) only [sB, Nat.reduceAdd, Nat.reduceLT, Nat.reduceLeDiff, Nat.reduceEqDiff, Nat.reduceMul, ↓reduceIte]; done) | fail) only [sA, ↓reduceIte, Nat.reduceLT, Nat.reduceEqDiff, Nat.reduceAdd, Nat.reduceLeDiff, k6, finish_flat (d := .bool false) rfl H2]
      rw [hb0, Bool.true_and]
      simp (disch := first | assumption | omega | (simp (disch := first | assumption | omega) only [sB, Nat.reduceAdd, Nat.reduceLT, Nat.reduceLeDiff, Nat.reduceEqDiff, Nat.reduceMul, ↓reduceIte]; done) | fail) only [sA, ↓reduceIte, Nat.reduceLT, Nat.reduceEqDiff, Nat.reduceAdd, Nat.reduceLeDiff, k2, k3, k4]
      generalize hr : LX (cF Go.Proofs.Try.prog) (.loop l80_1) _ _ _ = r
      obtain ⟨x, e3, n3, h3, rfl, H3, q⟩ := tailK hr (H2.mono (by omega)) (by omega) b3 b4 (by simp (disch := first | assumption | omega | (simp (disch := first | assumption | omega) only [sB, Nat.reduceAdd, Nat.reduceLT, Nat.reduceLeDiff, Nat.reduceEqDiff, Nat.reduceMul, ↓reduceIte]; done) | fail) only [sA, ↓reduceIte, Nat.reduceLT, Nat.reduceEqDiff, Nat.reduceAdd, Nat.reduceLeDiff, k2, k3, k4]) (by simp (disch := first | assumption | omega | (simp (disch := first | assumption | omega) only [sB, Nat.reduceAdd, Nat.reduceLT, Nat.reduceLeDiff, Nat.reduceEqDiff, Nat.reduceMul, ↓reduceIte]; done) | fail) only [sA, ↓reduceIte, Nat.reduceLT, Nat.reduceEqDiff, Nat.reduceAdd, Nat.reduceLeDiff, k2, k3, k4]) (by simp (disch := first | assumption | omega | (simp (disch := first | assumption | omega) only [sB, Nat.reduceAdd, Nat.reduceLT, Nat.reduceLeDiff, Nat.reduceEqDiff, Nat.reduceMul, ↓reduceIte]; done) | fail) only [sA, ↓reduceIte, Nat.reduceLT, Nat.reduceEqDiff, Nat.reduceAdd, Nat.reduceLeDiff, k2, k3, k4]) (by simp (disch := first | assumption | omega | (simp (disch := first | assumption | omega) only [sB, Nat.reduceAdd, Nat.reduceLT, Nat.reduceLeDiff, Nat.reduceEqDiff, Nat.reduceMul, ↓reduceIte]; done) | fail) only [sA, ↓reduceIte, Nat.reduceLT, Nat.reduceEqDiff, Nat.reduceAdd, Nat.reduceLeDiff])
      rcases q with ⟨rfl, hb⟩ | ⟨rfl, hb, g6⟩
      · rw [hb]
        simp (disch := first | assumption | omega | (simp (disch := first | assumption | omega) only [sB, Nat.reduceAdd, Nat.reduceLT, Nat.reduceLeDiff, Nat.reduceEqDiff, Nat.reduceMul, ↓reduceIte]; done) | fail) only [sA, ↓reduceIte, Nat.reduceLT, Nat.reduceEqDiff, Nat.reduceAdd, Nat.reduceLeDiff, finish_flat (d := .bool true) rfl (H3.mono (show n3 ≤ n3 + 1 by omega))]
      · rw [hb]
        simp (disch := first | assumption | omega | (simp (disch := first | assumption | omega) only [sB, Nat.reduceAdd, Nat.reduceLT, Nat.reduceLeDiff, Nat.reduceEqDiff, Nat.reduceMul, ↓reduceIte]; done) | fail) only [sA, ↓reduceIte, Nat.reduceLT, Nat.reduceEqDiff, Nat.reduceAdd, Nat.reduceLeDiff, g6, finish_flat (d := .bool false) rfl H3]
    · rw [hlen (by omega), Bool.false_and]
      simp (disch := first | assumption | omega | (simp (disch := first | assumption | omega) only [sB, Nat.reduceAdd, Nat.reduceLT, Nat.reduceLeDiff, Nat.reduceEqDiff, Nat.reduceMul, ↓reduceIte]; done) | fail) only [sA, ↓reduceIte, Nat.reduceLT, Nat.reduceEqDiff, Nat.reduceAdd, Nat.reduceLeDiff, y1d, y4]
  rw [if_neg f2]
  by_cases f10 : f = 10
  · subst f10
    rw [if_pos rfl]
    by_cases y3 : a.name = b.name
    · rw [decide_eq_true y3, Bool.true_and]
      have y3' : decide (a.name = b.name) = true := decide_eq_true y3
      by_cases y4 : ((a.levels.el.length : Nat) : Int) = ((b.levels.el.length : Nat) : Int)
      · have y4d : decide (((a.levels.el.length : Nat) : Int) = ((b.levels.el.length : Nat) : Int)) = true := decide_eq_true y4
        simp (disch := first | assumption | omega | (simp (disch := first | assumption | omega) only [sB, Nat.reduceAdd, Nat.reduceLT, Nat.reduceLeDiff, Nat.reduceEqDiff, Nat.reduceMul, ↓reduceIte]; done) | fail) only [sA, ↓reduceIte, Nat.reduceLT, Nat.reduceEqDiff, Nat.reduceAdd, Nat.reduceLeDiff, y1d, y3', str_neq, y4d]
        generalize hr : LX (cF Go.Proofs.Try.prog) (.loop l80_0) _ _ _ = r
        obtain ⟨x, e2, n2, h2, rfl, H2, p2, b3, b4, q⟩ := tailL (Or.inr rfl) rfl (by omega) hr (H0.mono (by omega)) (by omega) (by simp (disch := first | assumption | omega | (simp (disch := first | assumption | omega) only [sB, Nat.reduceAdd, Nat.reduceLT, Nat.reduceLeDiff, Nat.reduceEqDiff, Nat.reduceMul, ↓reduceIte]; done) | fail) only [sA, ↓reduceIte, Nat.reduceLT, Nat.reduceEqDiff, Nat.reduceAdd, Nat.reduceLeDiff]) (by simp (disch := first | assumption | omega | (simp (disch := first | assumption | omega) only [sB, Nat.reduceAdd, Nat.reduceLT, Nat.reduceLeDiff, Nat.reduceEqDiff, Nat.reduceMul, ↓reduceIte]; done) | fail) only [sA, ↓reduceIte, Nat.reduceLT, Nat.reduceEqDiff, Nat.reduceAdd, Nat.reduceLeDiff]) (by simp (disch := first | assumption | omega | (simp (disch := first | assumption | omega) only [sB, Nat.reduceAdd, Nat.reduceLT, Nat.reduceLeDiff, Nat.reduceEqDiff, Nat.reduceMul, ↓reduceIte]; done) | fail) only [sA, ↓reduceIte, Nat.reduceLT, Nat.reduceEqDiff, Nat.reduceAdd, Nat.reduceLeDiff]) (by simp (disch := first | assumption | omega | (simp (disch := first | assumption | omega) only [sB, Nat.reduceAdd, Nat.reduceLT, Nat.reduceLeDiff, Nat.reduceEqDiff, Nat.reduceMul, ↓reduceIte]; done) | fail) only [sA, ↓reduceIte, Nat.reduceLT, Nat.reduceEqDiff, Nat.reduceAdd, Nat.reduceLeDiff]) (by simp (disch := first | assumption | omega | (simp (disch := first | assumption | omega) only [sB, Nat.reduceAdd, Nat.reduceLT, Nat.reduceLeDiff, Nat.reduceEqDiff, Nat.reduceMul, ↓reduceIte]; done) | fail) only [sA, ↓reduceIte, Nat.reduceLT, Nat.reduceEqDiff, Nat.reduceAdd, Nat.reduceLeDiff]) (by simp (disch := first | assumption | omega | (simp (disch := first | assumption | omega) only [sB, Nat.reduceAdd, Nat.reduceLT, Nat.reduceLeDiff, Nat.reduceEqDiff, Nat.reduceMul, ↓reduceIte]; done) | fail) only [sA, ↓reduceIte, Nat.reduceLT, Nat.reduceEqDiff, Nat.reduceAdd, Nat.reduceLeDiff])
        rcases q with ⟨rfl, hb0, k2, k3, k4⟩ | ⟨rfl, hb0, k6⟩
        case inr =>
          rw [hb0, Bool.false_and]
          simp (disch := first | assumption | omega | (simp (disch := first | assumption | omega) only [sB, Nat.reduceAdd, Nat.reduceLT, Nat.reduceLeDiff, Nat.reduceEqDiff, Nat.reduceMul, ↓reduceIte]; done) | fail) only [sA, ↓reduceIte, Nat.reduceLT, Nat.reduceEqDiff, Nat.reduceAdd, Nat.reduceLeDiff, k6, finish_flat (d := .bool false) rfl H2]
        rw [hb0, Bool.true_and]
        simp (disch := first | assumption | omega | (simp (disch := first | assumption | omega) only [sB, Nat.reduceAdd, Nat.reduceLT, Nat.reduceLeDiff, Nat.reduceEqDiff, Nat.reduceMul, ↓reduceIte]; done) | fail) only [sA, ↓reduceIte, Nat.reduceLT, Nat.reduceEqDiff, Nat.reduceAdd, Nat.reduceLeDiff, k2, k3, k4]
        generalize hr : LX (cF Go.Proofs.Try.prog) (.loop l80_1) _ _ _ = r
        obtain ⟨x, e3, n3, h3, rfl, H3, q⟩ := tailK hr (H2.mono (by omega)) (by omega) b3 b4 (by simp (disch := first | assumption | omega | (simp (disch := first | assumption | omega) only [sB, Nat.reduceAdd, Nat.reduceLT, Nat.reduceLeDiff, Nat.reduceEqDiff, Nat.reduceMul, ↓reduceIte]; done) | fail) only [sA, ↓reduceIte, Nat.reduceLT, Nat.reduceEqDiff, Nat.reduceAdd, Nat.reduceLeDiff, k2, k3, k4]) (by simp (disch := first | assumption | omega | (simp (disch := first | assumption | omega) only [sB, Nat.reduceAdd, Nat.reduceLT, Nat.reduceLeDiff, Nat.reduceEqDiff, Nat.reduceMul, ↓reduceIte]; done) | fail) only [sA, ↓reduceIte, Nat.reduceLT, Nat.reduceEqDiff, Nat.reduceAdd, Nat.reduceLeDiff, k2, k3, k4]) (by simp (disch := first | assumption | omega | (simp (disch := first | assumption | omega) only [sB, Nat.reduceAdd, Nat.reduceLT, Nat.reduceLeDiff, Nat.reduceEqDiff, Nat.reduceMul, ↓reduceIte]; done) | fail) only [sA, ↓reduceIte, Nat.reduceLT, Nat.reduceEqDiff, Nat.reduceAdd, Nat.reduceLeDiff, k2, k3, k4]) (by simp (disch := first | assumption | omega | (simp (disch := first | assumption | omega) only [sB, Nat.reduceAdd, Nat.reduceLT, Nat.reduceLeDiff, Nat.reduceEqDiff, Nat.reduceMul, ↓reduceIte]; done) | fail) only [sA, ↓reduceIte, Nat.reduceLT, Nat.reduceEqDiff, Nat.reduceAdd, Nat.reduceLeDiff])
        rcases q with ⟨rfl, hb⟩ | ⟨rfl, hb, g6⟩
        · rw [hb]
          simp (disch := first | assumption | omega | (simp (disch := first | assumption | omega) only [sB, Nat.reduceAdd, Nat.reduceLT, Nat.reduceLeDiff, Nat.reduceEqDiff, Nat.reduceMul, ↓reduceIte]; done) | fail) only [sA, ↓reduceIte, Nat.reduceLT, Nat.reduceEqDiff, Nat.reduceAdd, Nat.reduceLeDiff, finish_flat (d := .bool true) rfl (H3.mono (show n3 ≤ n3 + 1 by omega))]
        · rw [hb]
          simp (disch := first | assumption | omega | (simp (disch := first | assumption | omega) only [sB, Nat.reduceAdd, Nat.reduceLT, Nat.reduceLeDiff, Nat.reduceEqDiff, Nat.reduceMul, ↓reduceIte]; done) | fail) only [sA, ↓reduceIte, Nat.reduceLT, Nat.reduceEqDiff, Nat.reduceAdd, Nat.reduceLeDiff, g6, finish_flat (d := .bool false) rfl H3]
      · rw [hlen (by omega), Bool.false_and]
        simp (disch := first | assumption | omega | (simp (disch := first | assumption | omega) only [sB, Nat.reduceAdd, Nat.reduceLT, Nat.reduceLeDiff, Nat.reduceEqDiff, Nat.reduceMul, ↓reduceIte]; done) | fail) only [sA, ↓reduceIte, Nat.reduceLT, Nat.reduceEqDiff, Nat.reduceAdd, Nat.reduceLeDiff, y1d, y3', str_neq, y4]
    · rw [decide_eq_false y3, Bool.false_and, Bool.false_and]
      have y3' : decide (a.name = b.name) = false := decide_eq_false y3
      simp (disch := first | assumption | omega | (simp (disch := first | assumption | omega) only [sB, Nat.reduceAdd, Nat.reduceLT, Nat.reduceLeDiff, Nat.reduceEqDiff, Nat.reduceMul, ↓reduceIte]; done) | fail) only [sA, ↓reduceIte, Nat.reduceLT, Nat.reduceEqDiff, Nat.reduceAdd, Nat.reduceLeDiff, y1d, y3', str_neq]
  rw [if_neg f10, Bool.true_and]
  simp (disch := first | assumption | omega | (simp (disch := first | assumption | omega) only [sB, Nat.reduceAdd, Nat.reduceLT, Nat.reduceLeDiff, Nat.reduceEqDiff, Nat.reduceMul, ↓reduceIte]; done) | fail) only [sA, ↓reduceIte, Nat.reduceLT, Nat.reduceEqDiff, Nat.reduceAdd, Nat.reduceLeDiff, y1d, f1, f2, f3, f4, f5, f10, f11]
  generalize hr : LX (cF Go.Proofs.Try.prog) (.loop l80_1) _ _ _ = r
  obtain ⟨x, e3, n3, h3, rfl, H3, q⟩ := tailK hr (H0.mono (by omega)) (by omega) (by simp (disch := first | assumption | omega | (simp (disch := first | assumption | omega) only [sB, Nat.reduceAdd, Nat.reduceLT, Nat.reduceLeDiff, Nat.reduceEqDiff, Nat.reduceMul, ↓reduceIte]; done) | fail) only [sA, ↓reduceIte, Nat.reduceLT, Nat.reduceEqDiff, Nat.reduceAdd, Nat.reduceLeDiff]) (by simp (disch := first | assumption | omega | (simp (disch := first | assumption | omega) only [sB, Nat.reduceAdd, Nat.reduceLT, Nat.reduceLeDiff, Nat.reduceEqDiff, Nat.reduceMul, ↓reduceIte]; done) | fail) only [sA, ↓reduceIte, Nat.reduceLT, Nat.reduceEqDiff, Nat.reduceAdd, Nat.reduceLeDiff]) (by simp (disch := first | assumption | omega | (simp (disch := first | assumption | omega) only [sB, Nat.reduceAdd, Nat.reduceLT, Nat.reduceLeDiff, Nat.reduceEqDiff, Nat.reduceMul, ↓reduceIte]; done) | fail) only [sA, ↓reduceIte, Nat.reduceLT, Nat.reduceEqDiff, Nat.reduceAdd, Nat.reduceLeDiff]) (by simp (disch := first | assumption | omega | (simp (disch := first | assumption | omega) only [sB, Nat.reduceAdd, Nat.reduceLT, Nat.reduceLeDiff, Nat.reduceEqDiff, Nat.reduceMul, ↓reduceIte]; done) | fail) only [sA, ↓reduceIte, Nat.reduceLT, Nat.reduceEqDiff, Nat.reduceAdd, Nat.reduceLeDiff]) (by simp (disch := first | assumption | omega | (simp (disch := first | assumption | omega) only [sB, Nat.reduceAdd, Nat.reduceLT, Nat.reduceLeDiff, Nat.reduceEqDiff, Nat.reduceMul, ↓reduceIte]; done) | fail) only [sA, ↓reduceIte, Nat.reduceLT, Nat.reduceEqDiff, Nat.reduceAdd, Nat.reduceLeDiff]) (by simp (disch := first | assumption | omega | (simp (disch := first | assumption | omega) only [sB, Nat.reduceAdd, Nat.reduceLT, Nat.reduceLeDiff, Nat.reduceEqDiff, Nat.reduceMul, ↓reduceIte]; done) | fail) only [sA, ↓reduceIte, Nat.reduceLT, Nat.reduceEqDiff, Nat.reduceAdd, Nat.reduceLeDiff])
  rcases q with ⟨rfl, hb⟩ | ⟨rfl, hb, g6⟩
  · rw [hb]
    simp (disch := first | assumption | omega | (simp (disch := first | assumption | omega) only [sB, Nat.reduceAdd, Nat.reduceLT, Nat.reduceLeDiff, Nat.reduceEqDiff, Nat.reduceMul, ↓reduceIte]; done) | fail) only [sA, ↓reduceIte, Nat.reduceLT, Nat.reduceEqDiff, Nat.reduceAdd, Nat.reduceLeDiff, finish_flat (d := .bool true) rfl (H3.mono (show n3 ≤ n3 + 1 by omega))]
  · rw [hb]
    simp (disch := first | assumption | omega | (simp (disch := first | assumption | omega) only [sB, Nat.reduceAdd, Nat.reduceLT, Nat.reduceLeDiff, Nat.reduceEqDiff, Nat.reduceMul, ↓reduceIte]; done) | fail) only [sA, ↓reduceIte, Nat.reduceLT, Nat.reduceEqDiff, Nat.reduceAdd, Nat.reduceLeDiff, g6, finish_flat (d := .bool false) rfl H3]

set_option maxHeartbeats 4000000 in
theorem rSame (a b : Tm) (sa : saneT a.abs = true) (sb : saneT b.abs = true) (n : Nat) (h : Hps) (hg : Gd n h) : callFn (LX (cF Go.Proofs.Try.prog)) n h [(D.agg [.int .i64 (a).form, .int .i64 (a).n, .bool (a).hid, .str (a).name, slD 2 encL (a).levels, slD 6 encT (a).kids]), (D.agg [.int .i64 (b).form, .int .i64 (b).n, .bool (b).hid, .str (b).name, slD 2 encL (b).levels, slD 6 encT (b).kids])] (cF Go.Proofs.Try.prog 42) = .ok (.bool (goodT a.abs && goodT b.abs && sameT true a.abs b.abs)) n h := by
  have hgn := hg n (Nat.le_refl _)
  have hG : ∀ m, n ≤ m → Gd m h := fun m hm => Gd.mono hg hm
  have ca : ∀ m h, Gd m h → callFn (LX (cF Go.Proofs.Try.prog)) m h [(D.agg [.int .i64 (a).form, .int .i64 (a).n, .bool (a).hid, .str (a).name, slD 2 encL (a).levels, slD 6 encT (a).kids])] (cF Go.Proofs.Try.prog 27) = .ok (.int .i64 (checkT a.abs)) m h := rCheck a sa
  have cb : ∀ m h, Gd m h → callFn (LX (cF Go.Proofs.Try.prog)) m h [(D.agg [.int .i64 (b).form, .int .i64 (b).n, .bool (b).hid, .str (b).name, slD 2 encL (b).levels, slD 6 encT (b).kids])] (cF Go.Proofs.Try.prog 27) = .ok (.int .i64 (checkT b.abs)) m h := rCheck b sb
  rw [f42_eq]; unfold c42; rw [callFn_eq (by rfl)]
  by_cases y1 : checkT a.abs = 0
  · have g1 := check_ok.1 y1
    rw [g1, Bool.true_and]
    rw [y1] at ca
    by_cases y2 : checkT b.abs = 0
    · have g2 := check_ok.1 y2
      rw [g2, Bool.true_and]
      rw [y2] at cb
      have f1 : formedT a.abs = true := by unfold goodT at g1; rw [Bool.and_eq_true] at g1; exact g1.2
      have f2 : formedT b.abs = true := by unfold goodT at g2; rw [Bool.and_eq_true] at g2; exact g2.2
      have c1 := rSameT true a f1 sa b f2
      simp (disch := first | assumption | omega | (simp (disch := first | assumption | omega) only [sB, Nat.reduceAdd, Nat.reduceLT, Nat.reduceLeDiff, Nat.reduceEqDiff, Nat.reduceMul, ↓reduceIte, hG, gd_tm]; done) | fail) only [sA, ↓reduceIte, Nat.reduceLT, Nat.reduceEqDiff, Nat.reduceAdd, Nat.reduceLeDiff, ca, cb, c1, hG, gd_tm]
    · rw [show goodT b.abs = false by cases hb : goodT b.abs; rfl; exact absurd (check_ok.2 hb) y2, Bool.false_and]
      generalize checkT b.abs = C at cb y2
      simp (disch := first | assumption | omega | (simp (disch := first | assumption | omega) only [sB, Nat.reduceAdd, Nat.reduceLT, Nat.reduceLeDiff, Nat.reduceEqDiff, Nat.reduceMul, ↓reduceIte, hG, gd_tm]; done) | fail) only [sA, ↓reduceIte, Nat.reduceLT, Nat.reduceEqDiff, Nat.reduceAdd, Nat.reduceLeDiff, ca, cb, y2, hG, gd_tm]
  · rw [show goodT a.abs = false by cases hb : goodT a.abs; rfl; exact absurd (check_ok.2 hb) y1, Bool.false_and, Bool.false_and]
    generalize checkT a.abs = C at ca y1
    simp (disch := first | assumption | omega | (simp (disch := first | assumption | omega) only [sB, Nat.reduceAdd, Nat.reduceLT, Nat.reduceLeDiff, Nat.reduceEqDiff, Nat.reduceMul, ↓reduceIte, hG, gd_tm]; done) | fail) only [sA, ↓reduceIte, Nat.reduceLT, Nat.reduceEqDiff, Nat.reduceAdd, Nat.reduceLeDiff, ca, y1, hG, gd_tm]
theorem partEq_refl (hid : Bool) (t : Trm) : partEq hid t t = true := by
  unfold partEq
  have e : levsEq t.levels t.levels = true := levsEq_iff.2 rfl
  rw [decide_eq_true rfl, decide_eq_true rfl, e, decide_eq_true rfl, decide_eq_true rfl, decide_eq_true rfl]
  cases hid <;> simp
theorem sameT_refl (hid : Bool) : ∀ t : Trm, sameT hid t t = true := by
  refine Trm.ind ?_
  intro t ih
  have key : ∀ l : List Trm, (∀ k, k ∈ l → k ∈ t.kids) → sameTs hid l l = true := by
    intro l
    induction l with
    | nil => intro _; exact sameTs_nil ..
    | cons k l ihl => intro hm; rw [sameTs_cons, ih k (hm k (by simp)), ihl (fun q hq => hm q (by simp [hq]))]; rfl
  rw [sameT_eq, partEq_refl, key _ fun _ h => h]
  rfl

theorem aliveS : callFn (LX (cF Go.Proofs.Try.prog)) 4 [] [] ((cF Go.Proofs.Try.prog) 12) = .ok (.bool true) 4 [] := by
  have h : callFn (exec (tbT.look (cF Go.Proofs.Try.prog)) 1000) 4 [] [] (tbT.look (cF Go.Proofs.Try.prog) 12) = .ok (.bool true) 4 [] := by kernel_rfl
  rw [Tb.look_eq tbT_ok] at h
  exact callFn_LX _ h
theorem leak_none (h : Hps) : Go.Proofs.Ytdijijblccmfbaa.leak 0 h = false := by
  induction h with
  | nil => rfl
  | cons p t ih => rw [show p = (p.1, p.2) from rfl, leak_new (Nat.zero_le _)]; exact ih

set_option maxHeartbeats 8000000 in
set_option maxRecDepth 8000 in
theorem ts_run (a b : Tm) (sa : saneT a.abs = true) (sb : saneT b.abs = true) : ∃ n' h', callFn (LX (cF Go.Proofs.Try.prog)) 0 [] [(D.agg [.int .i64 (a).form, .int .i64 (a).n, .bool (a).hid, .str (a).name, slD 2 encL (a).levels, slD 6 encT (a).kids]), (D.agg [.int .i64 (b).form, .int .i64 (b).n, .bool (b).hid, .str (b).name, slD 2 encL (b).levels, slD 6 encT (b).kids])] ((cF Go.Proofs.Try.prog) 8) = .ok (.bool true) n' h' := by
  have F0 := fun m h => finishD_flat (n0 := 0) (n := m) (d := .bool true) rfl (leak_none h)
  have hG : ∀ m, 2 ≤ m → Gd m [(1, (Ob.row 6 [.agg [.int .i64 (b).form, .int .i64 (b).n, .bool (b).hid, .str (b).name, slD 2 encL (b).levels, slD 6 encT (b).kids]])), (0, (Ob.row 6 [.agg [.int .i64 (a).form, .int .i64 (a).n, .bool (a).hid, .str (a).name, slD 2 encL (a).levels, slD 6 encT (a).kids]]))] := fun m hm => by
    rw [gd_tm (by omega), gd_tm (by omega)]
    exact fun _ _ => good_nil
  rw [f8_eq]; unfold c8; rw [callFn_eq (by rfl)]
  obtain ⟨x, hx⟩ := bigE a sa 8 [(1, (Ob.row 6 [.agg [.int .i64 (b).form, .int .i64 (b).n, .bool (b).hid, .str (b).name, slD 2 encL (b).levels, slD 6 encT (b).kids]])), (0, (Ob.row 6 [.agg [.int .i64 (a).form, .int .i64 (a).n, .bool (a).hid, .str (a).name, slD 2 encL (a).levels, slD 6 encT (a).kids]]))] (hG 8 (by decide))
  cases x with
  | true =>
    simp (disch := first | assumption | omega | (simp (disch := first | assumption | omega) only [sB, Nat.reduceAdd, Nat.reduceLT, Nat.reduceLeDiff, Nat.reduceEqDiff, Nat.reduceMul, ↓reduceIte]; done) | fail) only [sA, ↓reduceIte, Nat.reduceLT, Nat.reduceEqDiff, Nat.reduceAdd, Nat.reduceLeDiff, aliveS, hx, F0]
    exact ⟨_, _, rfl⟩
  | false =>
  obtain ⟨y, hy⟩ := bigE b sb 12 [(1, (Ob.row 6 [.agg [.int .i64 (b).form, .int .i64 (b).n, .bool (b).hid, .str (b).name, slD 2 encL (b).levels, slD 6 encT (b).kids]])), (0, (Ob.row 6 [.agg [.int .i64 (a).form, .int .i64 (a).n, .bool (a).hid, .str (a).name, slD 2 encL (a).levels, slD 6 encT (a).kids]]))] (hG 12 (by decide))
  cases y with
  | true =>
    simp (disch := first | assumption | omega | (simp (disch := first | assumption | omega) only [sB, Nat.reduceAdd, Nat.reduceLT, Nat.reduceLeDiff, Nat.reduceEqDiff, Nat.reduceMul, ↓reduceIte]; done) | fail) only [sA, ↓reduceIte, Nat.reduceLT, Nat.reduceEqDiff, Nat.reduceAdd, Nat.reduceLeDiff, aliveS, hx, hy, F0]
    exact ⟨_, _, rfl⟩
  | false =>
  have c1 := pSame a b sa sb
  have c2 := rSame a b sa sb
  have c3 : ∀ m h, Gd m h → callFn (LX (cF Go.Proofs.Try.prog)) m h [(D.agg [.int .i64 (a).form, .int .i64 (a).n, .bool (a).hid, .str (a).name, slD 2 encL (a).levels, slD 6 encT (a).kids]), (D.agg [.int .i64 (a).form, .int .i64 (a).n, .bool (a).hid, .str (a).name, slD 2 encL (a).levels, slD 6 encT (a).kids])] (cF Go.Proofs.Try.prog 41) = .ok (.bool (goodT a.abs)) m h := fun m h hg => by
    have := pSame a a sa sa m h hg
    rwa [sameT_refl, Bool.and_true, Bool.and_self] at this
  have c4 : ∀ m h, Gd m h → callFn (LX (cF Go.Proofs.Try.prog)) m h [(D.agg [.int .i64 (a).form, .int .i64 (a).n, .bool (a).hid, .str (a).name, slD 2 encL (a).levels, slD 6 encT (a).kids])] (cF Go.Proofs.Try.prog 27) = .ok (.int .i64 (checkT a.abs)) m h := rCheck a sa
  have hky : ∀ m, 2 ≤ m → keysFrom m [(1, (Ob.row 6 [.agg [.int .i64 (b).form, .int .i64 (b).n, .bool (b).hid, .str (b).name, slD 2 encL (b).levels, slD 6 encT (b).kids]])), (0, (Ob.row 6 [.agg [.int .i64 (a).form, .int .i64 (a).n, .bool (a).hid, .str (a).name, slD 2 encL (a).levels, slD 6 encT (a).kids]]))] = [] := fun m hm => keys_gd (hG m hm)
  generalize (goodT a.abs && goodT b.abs && sameT true a.abs b.abs) = X at c1 c2
  have hX : (X == X) = true := beq_self_eq_true X
  by_cases hc : checkT a.abs = 0
  · rw [check_ok.1 hc] at c3
    rw [hc] at c4
    simp (disch := first | assumption | omega | (simp (disch := first | assumption | omega) only [sB, Nat.reduceAdd, Nat.reduceLT, Nat.reduceLeDiff, Nat.reduceEqDiff, Nat.reduceMul, ↓reduceIte, hG, gd_nil]; done) | fail) only [sA, ↓reduceIte, Nat.reduceLT, Nat.reduceEqDiff, Nat.reduceAdd, Nat.reduceLeDiff, aliveS, hx, hy, c1, c2, c3, c4, hX, hky, F0, hG, gd_nil]
    exact ⟨_, _, rfl⟩
  · rw [show goodT a.abs = false by cases hb : goodT a.abs; rfl; exact absurd (check_ok.2 hb) hc] at c3
    generalize checkT a.abs = C at c4 hc
    simp (disch := first | assumption | omega | (simp (disch := first | assumption | omega) only [sB, Nat.reduceAdd, Nat.reduceLT, Nat.reduceLeDiff, Nat.reduceEqDiff, Nat.reduceMul, ↓reduceIte, hG, gd_nil]; done) | fail) only [sA, ↓reduceIte, Nat.reduceLT, Nat.reduceEqDiff, Nat.reduceAdd, Nat.reduceLeDiff, aliveS, hx, hy, c1, c2, c3, c4, hc, hX, hky, F0, hG, gd_nil]
    exact ⟨_, _, rfl⟩

set_option maxRecDepth 100000 in
theorem ts_lifted (os : Os) (started : os.Started) (H : Type) (enc : TypeId × Value → H) :
    ReturnsInHanded {} Go.Proofs.Try.checked os 8 .any (Rows.termSameSpec.pre6 enc Go.Proofs.Try.prog Go.Proofs.Try.f8 Rows.termSameRow.domain false) (Rows.termSameSpec.post enc Go.Proofs.Try.prog Go.Proofs.Try.f8 false true false false) := by
  refine law_lifted (K := noK) (C := Go.Proofs.Try.checked) (tb := 4) own started (by kernel_rfl) Go.Proofs.Try.func8
    (ChangeSpec.witness6 (enc := enc) (C := Go.Proofs.Try.checked) false ⟨#[], #[.agg #[.int .i64 0, .int .i64 0, .bool false, .string ByteArray.empty, .slice none 0 0, .slice none 0 0], .agg #[.int .i64 0, .int .i64 0, .bool false, .string ByteArray.empty, .slice none 0 0, .slice none 0 0]], []⟩ 8 (by kernel_rfl) (by kernel_rfl) (by kernel_rfl) (by kernel_rfl))
    mixed laidOut rowed_maps full_slices (by kernel_rfl) rfl (by kernel_rfl) rfl ?_ ?_
  · intro ds hl
    match ds, hl with
    | [_, _], _ => rfl
  · intro ds l hA
    have hA : ArgsAre Go.Proofs.Try.prog [25, 25] ds l := hA
    obtain ⟨x, y, f1, f2, rfl, h1, h2⟩ := args_two hA
    obtain ⟨a, e1, sa⟩ := tm_arg _ _ h1
    obtain ⟨b, e2, sb⟩ := tm_arg _ _ h2
    rw [e1, e2, encT_eq, encT_eq]
    exact ts_run a b sa sb

theorem TermSame_holds : Rows.TermSameSaid :=
  OpenClaim.holds_of_wide 8 Go.Proofs.Try.f8 rfl rfl rfl rfl rfl rfl rfl ⟨rfl, rfl, rfl, rfl, rfl⟩ rfl rfl rfl rfl rfl (by kernel_rfl) Go.Proofs.Try.func8 (by kernel_rfl)
    (of_decide_eq_true (by kernel_rfl)) (by unfold Func.isWrapper; first | (rw [if_pos (by decide +kernel)]; kernel_rfl) | (rw [if_neg (by decide +kernel)]; exact ⟨rfl, rfl⟩))
    (fun os started H enc _ => ts_lifted os started H enc)
end Go.Proofs.Ytdijijblccmfbaa
