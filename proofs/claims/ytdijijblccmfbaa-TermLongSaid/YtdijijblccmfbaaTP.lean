/- TermLong: terms have at most 20,000 parts, and are at most 500 high. No condition. -/
import Derived.Test.YtdijijblccmfbaaTJ
import Derived.Test.YtdijijblccmfbaaTT
import Derived.Test.YtdijijblccmfbaaCM
import Derived.Test.YtdijijblccmfbaaA38
set_option linter.unusedSimpArgs false
set_option linter.unusedVariables false
namespace Go.Proofs.Ytdijijblccmfbaa
open Go Go.ChangeShapes Go.WideShapes Go.ChangeAt Go.RowKit

def setTm (n : Int) : Tm := .mk 2 0 false [] ⟨false, true, [⟨n, Sl.app []⟩], []⟩ true true [] []
def fstTm (t : Tm) : Tm := .mk 8 0 false [] (Sl.app []) false true [t] []
def appTm (f a : Tm) : Tm := .mk 5 0 false [] (Sl.app []) false true [f, a] []
theorem enc_set (n : Int) : (Ob.row 6 [.agg [.int .i64 (setTm n).form, .int .i64 (setTm n).n, .bool (setTm n).hid, .str (setTm n).name, slD 2 encL (setTm n).levels, slD 6 encT (setTm n).kids]]) = .row 6 [.agg [.int .i64 2, .int .i64 0, .bool false, .str [], .sl 2 [.agg [.int .i64 n, .nils]] [] true, .nils]] := rfl
theorem enc_fst (t : Tm) : (Ob.row 6 [.agg [.int .i64 (fstTm t).form, .int .i64 (fstTm t).n, .bool (fstTm t).hid, .str (fstTm t).name, slD 2 encL (fstTm t).levels, slD 6 encT (fstTm t).kids]]) = .row 6 [.agg [.int .i64 8, .int .i64 0, .bool false, .str [], .nils, .sl 6 [(D.agg [.int .i64 (t).form, .int .i64 (t).n, .bool (t).hid, .str (t).name, slD 2 encL (t).levels, slD 6 encT (t).kids])] [] true]] := by
  rw [← encT_eq t]; rfl
theorem enc_app (f a : Tm) : (Ob.row 6 [.agg [.int .i64 (appTm f a).form, .int .i64 (appTm f a).n, .bool (appTm f a).hid, .str (appTm f a).name, slD 2 encL (appTm f a).levels, slD 6 encT (appTm f a).kids]]) = .row 6 [.agg [.int .i64 5, .int .i64 0, .bool false, .str [], .nils, .sl 6 [(D.agg [.int .i64 (f).form, .int .i64 (f).n, .bool (f).hid, .str (f).name, slD 2 encL (f).levels, slD 6 encT (f).kids]), (D.agg [.int .i64 (a).form, .int .i64 (a).n, .bool (a).hid, .str (a).name, slD 2 encL (a).levels, slD 6 encT (a).kids])] [] true]] := by
  rw [← encT_eq f, ← encT_eq a]; rfl
/-- right forms, and rows that are not longer than any -/
def fineT (t : Trm) : Prop := formedT t = true ∧ saneT t = true
theorem fine_set : fineT (setTm 0).abs := ⟨by decide, by decide⟩
theorem fine_fst {t : Tm} (h : fineT t.abs) : fineT (fstTm t).abs := by
  obtain ⟨h1, h2⟩ := h
  refine ⟨?_, (sane_eq _).2 ⟨?_, ?_⟩⟩
  · rw [formed_tm, part_tm]
    show (decide (kidsN 8 = ((1 : Nat) : Int)) && (if (8 : Int) = 1 ∨ (8 : Int) = 11 then _ else _) && ([t].all fun k => formedT k.abs)) = true
    rw [show ([t].all fun k => formedT k.abs) = true by rw [List.all_cons, List.all_nil, h1]; rfl]
    rfl
  · rw [abs_levels, abs_kids]; exact ⟨by show 0 ≤ _; decide, by show 1 ≤ _; decide⟩
  · rw [abs_kids]
    intro k hk
    obtain ⟨x, hx, rfl⟩ := List.mem_map.1 hk
    rw [List.mem_singleton.1 (show x ∈ [t] from hx)]
    exact h2
theorem fine_app {f a : Tm} (h : fineT f.abs) (g : fineT a.abs) : fineT (appTm f a).abs := by
  obtain ⟨h1, h2⟩ := h
  obtain ⟨g1, g2⟩ := g
  refine ⟨?_, (sane_eq _).2 ⟨?_, ?_⟩⟩
  · rw [formed_tm, part_tm]
    show (decide (kidsN 5 = ((2 : Nat) : Int)) && (if (5 : Int) = 1 ∨ (5 : Int) = 11 then _ else _) && ([f, a].all fun k => formedT k.abs)) = true
    rw [show ([f, a].all fun k => formedT k.abs) = true by rw [List.all_cons, List.all_cons, List.all_nil, h1, g1]; rfl]
    rfl
  · rw [abs_levels, abs_kids]; exact ⟨by show 0 ≤ _; decide, by show 2 ≤ _; decide⟩
  · rw [abs_kids]
    intro k hk
    obtain ⟨x, hx, rfl⟩ := List.mem_map.1 hk
    rcases List.mem_cons.1 (show x ∈ [f, a] from hx) with rfl | hx
    · exact h2
    · rw [List.mem_singleton.1 hx]; exact g2
theorem fst_size (t : Tm) : sizeT (fstTm t).abs = sizeT t.abs + 1 := by
  rw [size_abs]
  show 1 + sizeTs ([t].map Tm.abs) = _
  rw [List.map_cons, List.map_nil, sizeTs_cons, sizeTs_nil]; omega
theorem fst_high (t : Tm) : highT (fstTm t).abs = highT t.abs + 1 := by
  rw [high_abs]
  show 1 + highTs ([t].map Tm.abs) = _
  rw [List.map_cons, List.map_nil, highTs_cons, highTs_nil]; omega
theorem fine_check {t : Trm} (h : fineT t) : checkT t = if fitsT t then 0 else 2 := by
  unfold checkT
  rw [h.1]
  cases fitsT t <;> rfl

theorem aliveT : callFn (LX (cF Go.Proofs.Try.prog)) 2 [] [] ((cF Go.Proofs.Try.prog) 12) = .ok (.bool true) 2 [] := by
  have h : callFn (exec (tbT.look (cF Go.Proofs.Try.prog)) 1000) 2 [] [] (tbT.look (cF Go.Proofs.Try.prog) 12) = .ok (.bool true) 2 [] := by kernel_rfl
  rw [Tb.look_eq tbT_ok] at h
  exact callFn_LX _ h
theorem lawNum (n : Nat) (h : Hps) (hg : Gd n h) (a : Int) : callFn (LX (cF Go.Proofs.Try.prog)) n h [.int .i64 a] (cF Go.Proofs.Try.prog 19) = .ok (.int .i64 a) n h := by
  have hgn := hg n (Nat.le_refl _)
  rw [f19_eq]; unfold c19; rw [callFn_eq (by rfl)]
  simp (disch := first | assumption | omega | (simp (disch := first | assumption | omega) only [sB, Nat.reduceAdd, Nat.reduceLT, Nat.reduceLeDiff, Nat.reduceEqDiff, Nat.reduceMul, ↓reduceIte]; done) | fail) only [sA, ↓reduceIte, Nat.reduceLT, Nat.reduceEqDiff, Nat.reduceAdd, Nat.reduceLeDiff]
theorem lawSet (n : Nat) (h : Hps) (hg : Gd n h) (a : Int) : callFn (LX (cF Go.Proofs.Try.prog)) n h [.int .i64 a] (cF Go.Proofs.Try.prog 21) = .ok (.agg [.int .i64 2, .int .i64 0, .bool false, .str [], .sl 2 [.agg [.int .i64 a, .nils]] [] true, .nils]) n h := by
  have hgn := hg n (Nat.le_refl _)
  rw [f21_eq]; unfold c21; rw [callFn_eq (by rfl)]
  simp (disch := first | assumption | omega | (simp (disch := first | assumption | omega) only [sB, Nat.reduceAdd, Nat.reduceLT, Nat.reduceLeDiff, Nat.reduceEqDiff, Nat.reduceMul, ↓reduceIte]; done) | fail) only [sA, ↓reduceIte, Nat.reduceLT, Nat.reduceEqDiff, Nat.reduceAdd, Nat.reduceLeDiff]
theorem lawApp (n : Nat) (h : Hps) (hg : Gd n h) (f a : Tm) : callFn (LX (cF Go.Proofs.Try.prog)) n h [(D.agg [.int .i64 (f).form, .int .i64 (f).n, .bool (f).hid, .str (f).name, slD 2 encL (f).levels, slD 6 encT (f).kids]), (D.agg [.int .i64 (a).form, .int .i64 (a).n, .bool (a).hid, .str (a).name, slD 2 encL (a).levels, slD 6 encT (a).kids])] (cF Go.Proofs.Try.prog 23) = .ok (.agg [.int .i64 5, .int .i64 0, .bool false, .str [], .nils, .sl 6 [(D.agg [.int .i64 (f).form, .int .i64 (f).n, .bool (f).hid, .str (f).name, slD 2 encL (f).levels, slD 6 encT (f).kids]), (D.agg [.int .i64 (a).form, .int .i64 (a).n, .bool (a).hid, .str (a).name, slD 2 encL (a).levels, slD 6 encT (a).kids])] [] true]) n h := by
  have hgn := hg n (Nat.le_refl _)
  rw [f23_eq]; unfold c23; rw [callFn_eq (by rfl)]
  simp (disch := first | assumption | omega | (simp (disch := first | assumption | omega) only [sB, Nat.reduceAdd, Nat.reduceLT, Nat.reduceLeDiff, Nat.reduceEqDiff, Nat.reduceMul, ↓reduceIte]; done) | fail) only [sA, ↓reduceIte, Nat.reduceLT, Nat.reduceEqDiff, Nat.reduceAdd, Nat.reduceLeDiff]
theorem leak_none (h : Hps) : Go.Proofs.Ytdijijblccmfbaa.leak 0 h = false := by
  induction h with
  | nil => rfl
  | cons p t ih => rw [show p = (p.1, p.2) from rfl, leak_new (Nat.zero_le _)]; exact ih

set_option maxHeartbeats 4000000 in
theorem tl_in {q K : Nat} {T X : Tm} {e : Tr} {n0 : Nat} {h' : Hps} {r : Re} (hr : LX (cF Go.Proofs.Try.prog) (.loop l4_1) e n0 h' = r) (H : Hp 0 [] n0 h') (hq : q ≠ 23) (b6 : getO h' 23 = (Ob.row 6 [.agg [.int .i64 (T).form, .int .i64 (T).n, .bool (T).hid, .str (T).name, slD 2 encL (T).levels, slD 6 encT (T).kids]])) (fX : fineT X.abs) (b11 : getO h' q = (Ob.row 6 [.agg [.int .i64 (X).form, .int .i64 (X).n, .bool (X).hid, .str (X).name, slD 2 encL (X).levels, slD 6 encT (X).kids]])) (hK : K ≤ 1000)
    (g10 : get (po 10) e = .int .i64 ((K + 1 : Nat) : Int)) (g11 : get (po 11) e = .ptr q 0 0) (g12 : get (po 12) e = .int .i64 1) :
    ∃ x e' n' h'', r = .ok x e' n' h'' ∧ x = .exit 4 ∧ Hp 0 [] n' h'' ∧ n0 ≤ n' ∧ getO h'' 23 = (Ob.row 6 [.agg [.int .i64 (T).form, .int .i64 (T).n, .bool (T).hid, .str (T).name, slD 2 encL (T).levels, slD 6 encT (T).kids]]) ∧ (∃ X' : Tm, fineT X'.abs ∧ getO h'' q = (Ob.row 6 [.agg [.int .i64 (X').form, .int .i64 (X').n, .bool (X').hid, .str (X').name, slD 2 encL (X').levels, slD 6 encT (X').kids]])) ∧ get (po 0) e' = get (po 0) e ∧ get (po 6) e' = get (po 6) e ∧ get (po 9) e' = get (po 9) e ∧ get (po 10) e' = .int .i64 ((K + 1 : Nat) : Int) ∧ get (po 11) e' = .ptr q 0 0 := by
  refine loop_up hr K
    (fun i e' n' h'' => Hp 0 [] n' h'' ∧ n0 ≤ n' ∧ getO h'' 23 = (Ob.row 6 [.agg [.int .i64 (T).form, .int .i64 (T).n, .bool (T).hid, .str (T).name, slD 2 encL (T).levels, slD 6 encT (T).kids]]) ∧ (∃ X' : Tm, fineT X'.abs ∧ getO h'' q = (Ob.row 6 [.agg [.int .i64 (X').form, .int .i64 (X').n, .bool (X').hid, .str (X').name, slD 2 encL (X').levels, slD 6 encT (X').kids]])) ∧ (get (po 0) e' = get (po 0) e ∧ get (po 6) e' = get (po 6) e ∧ get (po 9) e' = get (po 9) e) ∧ get (po 10) e' = .int .i64 ((K + 1 : Nat) : Int) ∧ get (po 11) e' = .ptr q 0 0 ∧ get (po 12) e' = .int .i64 ((i + 1 : Nat) : Int))
    (fun x e' n' h'' => x = .exit 4 ∧ Hp 0 [] n' h'' ∧ n0 ≤ n' ∧ getO h'' 23 = (Ob.row 6 [.agg [.int .i64 (T).form, .int .i64 (T).n, .bool (T).hid, .str (T).name, slD 2 encL (T).levels, slD 6 encT (T).kids]]) ∧ (∃ X' : Tm, fineT X'.abs ∧ getO h'' q = (Ob.row 6 [.agg [.int .i64 (X').form, .int .i64 (X').n, .bool (X').hid, .str (X').name, slD 2 encL (X').levels, slD 6 encT (X').kids]])) ∧ get (po 0) e' = get (po 0) e ∧ get (po 6) e' = get (po 6) e ∧ get (po 9) e' = get (po 9) e ∧ get (po 10) e' = .int .i64 ((K + 1 : Nat) : Int) ∧ get (po 11) e' = .ptr q 0 0)
    ?_ ?_ ⟨H, Nat.le_refl _, b6, ⟨X, fX, b11⟩, ⟨rfl, rfl, rfl⟩, g10, g11, g12⟩
  · rintro e' n' h'' ⟨H, p1, b6, ⟨X', fX, b11⟩, ⟨k0, k6, k9⟩, g10, g11, g12⟩
    unfold l4_1
    simp (disch := first | assumption | omega | (simp (disch := first | assumption | omega) only [sB, Nat.reduceAdd, Nat.reduceLT, Nat.reduceLeDiff, Nat.reduceEqDiff, Nat.reduceMul, ↓reduceIte]; done) | fail) only [sA, ↓reduceIte, Nat.reduceLT, Nat.reduceEqDiff, Nat.reduceAdd, Nat.reduceLeDiff, g10, g12]
    exact ⟨_, _, _, _, rfl, by simp, rfl, H.mono (by omega), by omega, b6, ⟨X', fX, b11⟩, by simp (disch := first | assumption | omega | (simp (disch := first | assumption | omega) only [sB, Nat.reduceAdd, Nat.reduceLT, Nat.reduceLeDiff, Nat.reduceEqDiff, Nat.reduceMul, ↓reduceIte]; done) | fail) only [sA, ↓reduceIte, Nat.reduceLT, Nat.reduceEqDiff, Nat.reduceAdd, Nat.reduceLeDiff, k0], by simp (disch := first | assumption | omega | (simp (disch := first | assumption | omega) only [sB, Nat.reduceAdd, Nat.reduceLT, Nat.reduceLeDiff, Nat.reduceEqDiff, Nat.reduceMul, ↓reduceIte]; done) | fail) only [sA, ↓reduceIte, Nat.reduceLT, Nat.reduceEqDiff, Nat.reduceAdd, Nat.reduceLeDiff, k6], by simp (disch := first | assumption | omega | (simp (disch := first | assumption | omega) only [sB, Nat.reduceAdd, Nat.reduceLT, Nat.reduceLeDiff, Nat.reduceEqDiff, Nat.reduceMul, ↓reduceIte]; done) | fail) only [sA, ↓reduceIte, Nat.reduceLT, Nat.reduceEqDiff, Nat.reduceAdd, Nat.reduceLeDiff, k9], by simp (disch := first | assumption | omega | (simp (disch := first | assumption | omega) only [sB, Nat.reduceAdd, Nat.reduceLT, Nat.reduceLeDiff, Nat.reduceEqDiff, Nat.reduceMul, ↓reduceIte]; done) | fail) only [sA, ↓reduceIte, Nat.reduceLT, Nat.reduceEqDiff, Nat.reduceAdd, Nat.reduceLeDiff, g10], by simp (disch := first | assumption | omega | (simp (disch := first | assumption | omega) only [sB, Nat.reduceAdd, Nat.reduceLT, Nat.reduceLeDiff, Nat.reduceEqDiff, Nat.reduceMul, ↓reduceIte]; done) | fail) only [sA, ↓reduceIte, Nat.reduceLT, Nat.reduceEqDiff, Nat.reduceAdd, Nat.reduceLeDiff, g11]⟩
  · rintro i e' n' h'' hi ⟨H, p1, b6, ⟨X', fX, b11⟩, ⟨k0, k6, k9⟩, g10, g11, g12⟩
    have HS : Hp 0 [] n' (setO h'' q (Ob.row 6 [.agg [.int .i64 (fstTm X').form, .int .i64 (fstTm X').n, .bool (fstTm X').hid, .str (fstTm X').name, slD 2 encL (fstTm X').levels, slD 6 encT (fstTm X').kids]])) := H.set (Nat.zero_le _) (fun k _ => lowO_one (low_flat (flatTA (fstTm X'))))
    have e1 : getO (setO h'' q (Ob.row 6 [.agg [.int .i64 (fstTm X').form, .int .i64 (fstTm X').n, .bool (fstTm X').hid, .str (fstTm X').name, slD 2 encL (fstTm X').levels, slD 6 encT (fstTm X').kids]])) q = (Ob.row 6 [.agg [.int .i64 (fstTm X').form, .int .i64 (fstTm X').n, .bool (fstTm X').hid, .str (fstTm X').name, slD 2 encL (fstTm X').levels, slD 6 encT (fstTm X').kids]]) := getO_set1 b11
    have e2 : getO (setO h'' q (Ob.row 6 [.agg [.int .i64 (fstTm X').form, .int .i64 (fstTm X').n, .bool (fstTm X').hid, .str (fstTm X').name, slD 2 encL (fstTm X').levels, slD 6 encT (fstTm X').kids]])) 23 = (Ob.row 6 [.agg [.int .i64 (T).form, .int .i64 (T).n, .bool (T).hid, .str (T).name, slD 2 encL (T).levels, slD 6 encT (T).kids]]) := getO_set2 b11 b6 (by omega)
    rw [enc_fst] at HS
    rw [show setO h'' q (Ob.row 6 [.agg [.int .i64 (fstTm X').form, .int .i64 (fstTm X').n, .bool (fstTm X').hid, .str (fstTm X').name, slD 2 encL (fstTm X').levels, slD 6 encT (fstTm X').kids]]) = setO h'' q (.row 6 [.agg [.int .i64 8, .int .i64 0, .bool false, .str [], .nils, .sl 6 [(D.agg [.int .i64 (X').form, .int .i64 (X').n, .bool (X').hid, .str (X').name, slD 2 encL (X').levels, slD 6 encT (X').kids])] [] true]]) by rw [enc_fst]] at e1 e2
    unfold l4_1
    simp (disch := first | assumption | omega | (simp (disch := first | assumption | omega) only [sB, Nat.reduceAdd, Nat.reduceLT, Nat.reduceLeDiff, Nat.reduceEqDiff, Nat.reduceMul, ↓reduceIte]; done) | fail) only [sA, ↓reduceIte, Nat.reduceLT, Nat.reduceEqDiff, Nat.reduceAdd, Nat.reduceLeDiff, g10, g11, g12, b11]
    exact ⟨_, _, _, _, rfl, .inl ⟨rfl, HS.mono (by omega), by omega, e2, ⟨fstTm X', fine_fst fX, e1⟩, ⟨by simp (disch := first | assumption | omega | (simp (disch := first | assumption | omega) only [sB, Nat.reduceAdd, Nat.reduceLT, Nat.reduceLeDiff, Nat.reduceEqDiff, Nat.reduceMul, ↓reduceIte]; done) | fail) only [sA, ↓reduceIte, Nat.reduceLT, Nat.reduceEqDiff, Nat.reduceAdd, Nat.reduceLeDiff, k0], by simp (disch := first | assumption | omega | (simp (disch := first | assumption | omega) only [sB, Nat.reduceAdd, Nat.reduceLT, Nat.reduceLeDiff, Nat.reduceEqDiff, Nat.reduceMul, ↓reduceIte]; done) | fail) only [sA, ↓reduceIte, Nat.reduceLT, Nat.reduceEqDiff, Nat.reduceAdd, Nat.reduceLeDiff, k6], by simp (disch := first | assumption | omega | (simp (disch := first | assumption | omega) only [sB, Nat.reduceAdd, Nat.reduceLT, Nat.reduceLeDiff, Nat.reduceEqDiff, Nat.reduceMul, ↓reduceIte]; done) | fail) only [sA, ↓reduceIte, Nat.reduceLT, Nat.reduceEqDiff, Nat.reduceAdd, Nat.reduceLeDiff, k9]⟩, by simp (disch := first | assumption | omega | (simp (disch := first | assumption | omega) only [sB, Nat.reduceAdd, Nat.reduceLT, Nat.reduceLeDiff, Nat.reduceEqDiff, Nat.reduceMul, ↓reduceIte]; done) | fail) only [sA, ↓reduceIte, Nat.reduceLT, Nat.reduceEqDiff, Nat.reduceAdd, Nat.reduceLeDiff, g10], by simp (disch := first | assumption | omega | (simp (disch := first | assumption | omega) only [sB, Nat.reduceAdd, Nat.reduceLT, Nat.reduceLeDiff, Nat.reduceEqDiff, Nat.reduceMul, ↓reduceIte]; done) | fail) only [sA, ↓reduceIte, Nat.reduceLT, Nat.reduceEqDiff, Nat.reduceAdd, Nat.reduceLeDiff, g11], by simp (disch := first | assumption | omega | (simp (disch := first | assumption | omega) only [sB, Nat.reduceAdd, Nat.reduceLT, Nat.reduceLeDiff, Nat.reduceEqDiff, Nat.reduceMul, ↓reduceIte]; done) | fail) only [sA, ↓reduceIte, Nat.reduceLT, Nat.reduceEqDiff, Nat.reduceAdd, Nat.reduceLeDiff]⟩⟩

set_option maxHeartbeats 8000000 in
set_option maxRecDepth 8000 in
theorem tl_run (a : Int) (high : Bool) : ∃ n' h', callFn (LX (cF Go.Proofs.Try.prog)) 0 [] [.int .i64 a, .bool high] ((cF Go.Proofs.Try.prog) 4) = .ok (.bool true) n' h' := by
  have F0 := fun m h => finishD_flat (n0 := 0) (n := m) (d := .bool true) rfl (leak_none h)
  have cs := lawSet
  have cn := lawNum
  have HI : Hp 0 [] 24 [(23, (Ob.row 6 [.agg [.int .i64 (setTm 0).form, .int .i64 (setTm 0).n, .bool (setTm 0).hid, .str (setTm 0).name, slD 2 encL (setTm 0).levels, slD 6 encT (setTm 0).kids]]))] := (Hp.start (n0 := 0) (h0 := []) (fun _ _ => good_nil)).box (k := 6) (r := 23) (m := 24) (by omega) (by omega) (flatTA (setTm 0))
  rw [f4_eq]; unfold c4; rw [callFn_eq (by rfl)]
  by_cases y1 : a < 1
  · simp (disch := first | assumption | omega | (simp (disch := first | assumption | omega) only [sB, Nat.reduceAdd, Nat.reduceLT, Nat.reduceLeDiff, Nat.reduceEqDiff, Nat.reduceMul, ↓reduceIte]; done) | fail) only [sA, ↓reduceIte, Nat.reduceLT, Nat.reduceEqDiff, Nat.reduceAdd, Nat.reduceLeDiff, aliveT, y1]
    exact ⟨_, _, rfl⟩
  by_cases y2 : a > 20010
  · simp (disch := first | assumption | omega | (simp (disch := first | assumption | omega) only [sB, Nat.reduceAdd, Nat.reduceLT, Nat.reduceLeDiff, Nat.reduceEqDiff, Nat.reduceMul, ↓reduceIte]; done) | fail) only [sA, ↓reduceIte, Nat.reduceLT, Nat.reduceEqDiff, Nat.reduceAdd, Nat.reduceLeDiff, aliveT, y1, y2]
    exact ⟨_, _, rfl⟩
  cases high with
  | true =>
    by_cases y3 : a > 600
    · simp (disch := first | assumption | omega | (simp (disch := first | assumption | omega) only [sB, Nat.reduceAdd, Nat.reduceLT, Nat.reduceLeDiff, Nat.reduceEqDiff, Nat.reduceMul, ↓reduceIte]; done) | fail) only [sA, ↓reduceIte, Nat.reduceLT, Nat.reduceEqDiff, Nat.reduceAdd, Nat.reduceLeDiff, aliveT, y1, y2, y3]
      exact ⟨_, _, rfl⟩
    obtain ⟨m, rfl⟩ : ∃ m : Nat, a = ((m + 1 : Nat) : Int) := ⟨(a - 1).toNat, by omega⟩
    simp (disch := first | assumption | omega | (simp (disch := first | assumption | omega) only [sB, Nat.reduceAdd, Nat.reduceLT, Nat.reduceLeDiff, Nat.reduceEqDiff, Nat.reduceMul, ↓reduceIte, gd_nil]; done) | fail) only [sA, ↓reduceIte, Nat.reduceLT, Nat.reduceEqDiff, Nat.reduceAdd, Nat.reduceLeDiff, aliveT, y1, y2, y3, cs, gd_nil]
    generalize hr : LX (cF Go.Proofs.Try.prog) (.loop l4_0) _ _ _ = r
    obtain ⟨x, e2, n2, h2, rfl, rfl, H2, ⟨T, fT, zT, tT, b6⟩, g0, g6⟩ := loop_up hr m
      (fun i e n' h' => Hp 0 [] n' h' ∧ 24 ≤ n' ∧ (∃ T : Tm, fineT T.abs ∧ sizeT T.abs = i + 1 ∧ highT T.abs = i + 1 ∧ getO h' 23 = (Ob.row 6 [.agg [.int .i64 (T).form, .int .i64 (T).n, .bool (T).hid, .str (T).name, slD 2 encL (T).levels, slD 6 encT (T).kids]])) ∧ get (po 0) e = .int .i64 ((m + 1 : Nat) : Int) ∧ get (po 6) e = .ptr 23 0 0 ∧ get (po 7) e = .int .i64 ((i + 1 : Nat) : Int))
      (fun x e n' h' => x = .exit 0 ∧ Hp 0 [] n' h' ∧ (∃ T : Tm, fineT T.abs ∧ sizeT T.abs = m + 1 ∧ highT T.abs = m + 1 ∧ getO h' 23 = (Ob.row 6 [.agg [.int .i64 (T).form, .int .i64 (T).n, .bool (T).hid, .str (T).name, slD 2 encL (T).levels, slD 6 encT (T).kids]])) ∧ get (po 0) e = .int .i64 ((m + 1 : Nat) : Int) ∧ get (po 6) e = .ptr 23 0 0)
      (by
        rintro e n' h' ⟨H, p1, ⟨T, fT, zT, tT, b6⟩, g0, g6, g7⟩
        unfold l4_0
        simp (disch := first | assumption | omega | (simp (disch := first | assumption | omega) only [sB, Nat.reduceAdd, Nat.reduceLT, Nat.reduceLeDiff, Nat.reduceEqDiff, Nat.reduceMul, ↓reduceIte]; done) | fail) only [sA, ↓reduceIte, Nat.reduceLT, Nat.reduceEqDiff, Nat.reduceAdd, Nat.reduceLeDiff, g0, g7]
        exact ⟨_, _, _, _, rfl, by simp, rfl, H.mono (by omega), ⟨T, fT, zT, tT, b6⟩, by simp (disch := first | assumption | omega | (simp (disch := first | assumption | omega) only [sB, Nat.reduceAdd, Nat.reduceLT, Nat.reduceLeDiff, Nat.reduceEqDiff, Nat.reduceMul, ↓reduceIte]; done) | fail) only [sA, ↓reduceIte, Nat.reduceLT, Nat.reduceEqDiff, Nat.reduceAdd, Nat.reduceLeDiff, g0], by simp (disch := first | assumption | omega | (simp (disch := first | assumption | omega) only [sB, Nat.reduceAdd, Nat.reduceLT, Nat.reduceLeDiff, Nat.reduceEqDiff, Nat.reduceMul, ↓reduceIte]; done) | fail) only [sA, ↓reduceIte, Nat.reduceLT, Nat.reduceEqDiff, Nat.reduceAdd, Nat.reduceLeDiff, g6]⟩)
      (by
        rintro i e n' h' hi ⟨H, p1, ⟨T, fT, zT, tT, b6⟩, g0, g6, g7⟩
        have HS : Hp 0 [] n' (setO h' 23 (Ob.row 6 [.agg [.int .i64 (fstTm T).form, .int .i64 (fstTm T).n, .bool (fstTm T).hid, .str (fstTm T).name, slD 2 encL (fstTm T).levels, slD 6 encT (fstTm T).kids]])) := H.set (Nat.zero_le _) (fun k _ => lowO_one (low_flat (flatTA (fstTm T))))
        have e1 : getO (setO h' 23 (Ob.row 6 [.agg [.int .i64 (fstTm T).form, .int .i64 (fstTm T).n, .bool (fstTm T).hid, .str (fstTm T).name, slD 2 encL (fstTm T).levels, slD 6 encT (fstTm T).kids]])) 23 = (Ob.row 6 [.agg [.int .i64 (fstTm T).form, .int .i64 (fstTm T).n, .bool (fstTm T).hid, .str (fstTm T).name, slD 2 encL (fstTm T).levels, slD 6 encT (fstTm T).kids]]) := getO_set1 b6
        rw [enc_fst] at HS
        rw [show setO h' 23 (Ob.row 6 [.agg [.int .i64 (fstTm T).form, .int .i64 (fstTm T).n, .bool (fstTm T).hid, .str (fstTm T).name, slD 2 encL (fstTm T).levels, slD 6 encT (fstTm T).kids]]) = setO h' 23 (.row 6 [.agg [.int .i64 8, .int .i64 0, .bool false, .str [], .nils, .sl 6 [(D.agg [.int .i64 (T).form, .int .i64 (T).n, .bool (T).hid, .str (T).name, slD 2 encL (T).levels, slD 6 encT (T).kids])] [] true]]) by rw [enc_fst]] at e1
        unfold l4_0
        simp (disch := first | assumption | omega | (simp (disch := first | assumption | omega) only [sB, Nat.reduceAdd, Nat.reduceLT, Nat.reduceLeDiff, Nat.reduceEqDiff, Nat.reduceMul, ↓reduceIte]; done) | fail) only [sA, ↓reduceIte, Nat.reduceLT, Nat.reduceEqDiff, Nat.reduceAdd, Nat.reduceLeDiff, g0, g6, g7, b6]
        exact ⟨_, _, _, _, rfl, .inl ⟨rfl, HS.mono (by omega), by omega, ⟨fstTm T, fine_fst fT, by rw [fst_size, zT], by rw [fst_high, tT], e1⟩, by simp (disch := first | assumption | omega | (simp (disch := first | assumption | omega) only [sB, Nat.reduceAdd, Nat.reduceLT, Nat.reduceLeDiff, Nat.reduceEqDiff, Nat.reduceMul, ↓reduceIte]; done) | fail) only [sA, ↓reduceIte, Nat.reduceLT, Nat.reduceEqDiff, Nat.reduceAdd, Nat.reduceLeDiff, g0], by simp (disch := first | assumption | omega | (simp (disch := first | assumption | omega) only [sB, Nat.reduceAdd, Nat.reduceLT, Nat.reduceLeDiff, Nat.reduceEqDiff, Nat.reduceMul, ↓reduceIte]; done) | fail) only [sA, ↓reduceIte, Nat.reduceLT, Nat.reduceEqDiff, Nat.reduceAdd, Nat.reduceLeDiff, g6], by simp (disch := first | assumption | omega | (simp (disch := first | assumption | omega) only [sB, Nat.reduceAdd, Nat.reduceLT, Nat.reduceLeDiff, Nat.reduceEqDiff, Nat.reduceMul, ↓reduceIte]; done) | fail) only [sA, ↓reduceIte, Nat.reduceLT, Nat.reduceEqDiff, Nat.reduceAdd, Nat.reduceLeDiff]⟩⟩)
      ⟨HI.mono (by omega), by omega, ⟨setTm 0, fine_set, by decide, by decide, getO_hd⟩, by simp (disch := first | assumption | omega | (simp (disch := first | assumption | omega) only [sB, Nat.reduceAdd, Nat.reduceLT, Nat.reduceLeDiff, Nat.reduceEqDiff, Nat.reduceMul, ↓reduceIte]; done) | fail) only [sA, ↓reduceIte, Nat.reduceLT, Nat.reduceEqDiff, Nat.reduceAdd, Nat.reduceLeDiff], by simp (disch := first | assumption | omega | (simp (disch := first | assumption | omega) only [sB, Nat.reduceAdd, Nat.reduceLT, Nat.reduceLeDiff, Nat.reduceEqDiff, Nat.reduceMul, ↓reduceIte]; done) | fail) only [sA, ↓reduceIte, Nat.reduceLT, Nat.reduceEqDiff, Nat.reduceAdd, Nat.reduceLeDiff], by simp (disch := first | assumption | omega | (simp (disch := first | assumption | omega) only [sB, Nat.reduceAdd, Nat.reduceLT, Nat.reduceLeDiff, Nat.reduceEqDiff, Nat.reduceMul, ↓reduceIte]; done) | fail) only [sA, ↓reduceIte, Nat.reduceLT, Nat.reduceEqDiff, Nat.reduceAdd, Nat.reduceLeDiff]⟩
    have hG : ∀ m, n2 ≤ m → Gd m h2 := fun m hm => H2.good' hm
    have cc : ∀ m h, Gd m h → callFn (LX (cF Go.Proofs.Try.prog)) m h [(D.agg [.int .i64 (T).form, .int .i64 (T).n, .bool (T).hid, .str (T).name, slD 2 encL (T).levels, slD 6 encT (T).kids])] (cF Go.Proofs.Try.prog 22) = .ok (.int .i64 (checkT T.abs)) m h := pCheck T fT.2
    rw [fine_check fT] at cc
    unfold fitsT at cc
    rw [zT, tT] at cc
    by_cases y4 : ((m + 1 : Nat) : Int) ≤ 500
    · rw [decide_eq_true (by omega), if_pos rfl] at cc
      simp (disch := first | assumption | omega | (simp (disch := first | assumption | omega) only [sB, Nat.reduceAdd, Nat.reduceLT, Nat.reduceLeDiff, Nat.reduceEqDiff, Nat.reduceMul, ↓reduceIte, hG]; done) | fail) only [sA, ↓reduceIte, Nat.reduceLT, Nat.reduceEqDiff, Nat.reduceAdd, Nat.reduceLeDiff, g0, g6, b6, cc, cn, y4, F0, hG]
      exact ⟨_, _, rfl⟩
    · rw [decide_eq_false (by omega), if_neg (by decide)] at cc
      simp (disch := first | assumption | omega | (simp (disch := first | assumption | omega) only [sB, Nat.reduceAdd, Nat.reduceLT, Nat.reduceLeDiff, Nat.reduceEqDiff, Nat.reduceMul, ↓reduceIte, hG]; done) | fail) only [sA, ↓reduceIte, Nat.reduceLT, Nat.reduceEqDiff, Nat.reduceAdd, Nat.reduceLeDiff, g0, g6, b6, cc, cn, y4, F0, hG]
      exact ⟨_, _, rfl⟩
  | false =>
    simp (disch := first | assumption | omega | (simp (disch := first | assumption | omega) only [sB, Nat.reduceAdd, Nat.reduceLT, Nat.reduceLeDiff, Nat.reduceEqDiff, Nat.reduceMul, ↓reduceIte, gd_nil]; done) | fail) only [sA, ↓reduceIte, Nat.reduceLT, Nat.reduceEqDiff, Nat.reduceAdd, Nat.reduceLeDiff, aliveT, y1, y2, cs, gd_nil]
    generalize hr : LX (cF Go.Proofs.Try.prog) (.loop l4_2) _ _ _ = r
    obtain ⟨x, e2, n2, h2, rfl, rfl, H2, ⟨T, fT, b6⟩, g6⟩ := loop_at hr
      (fun j e n' h' => Hp 0 [] n' h' ∧ 24 ≤ n' ∧ (∃ T : Tm, fineT T.abs ∧ getO h' 23 = (Ob.row 6 [.agg [.int .i64 (T).form, .int .i64 (T).n, .bool (T).hid, .str (T).name, slD 2 encL (T).levels, slD 6 encT (T).kids]])) ∧ j ≤ 20010 ∧ get (po 6) e = .ptr 23 0 0 ∧ get (po 9) e = .int .i64 (j : Nat))
      (fun x e n' h' => x = .exit 2 ∧ Hp 0 [] n' h' ∧ (∃ T : Tm, fineT T.abs ∧ getO h' 23 = (Ob.row 6 [.agg [.int .i64 (T).form, .int .i64 (T).n, .bool (T).hid, .str (T).name, slD 2 encL (T).levels, slD 6 encT (T).kids]])) ∧ get (po 6) e = .ptr 23 0 0)
      (by
        rintro j e n' h' ⟨H, p1, ⟨T, fT, b6⟩, hj, g6, g9⟩
        by_cases z1 : ((j : Nat) : Int) > 1
        · obtain ⟨K, hK, hK2⟩ : ∃ K : Nat, K + 2 ≤ j ∧ (if ((j : Nat) : Int) - 1 > 200 then (200 : Int) else ((j : Nat) : Int) - 1) = ((K + 1 : Nat) : Int) := by
            by_cases z2 : ((j : Nat) : Int) - 1 > 200
            · exact ⟨199, by omega, by rw [if_pos z2]; rfl⟩
            · exact ⟨j - 2, by omega, by rw [if_neg z2]; omega⟩
          have hG : ∀ m, n' ≤ m → Gd m h' := fun m hm => H.good' hm
          unfold l4_2
          by_cases z2 : ((j : Nat) : Int) - 1 > 200
          · rw [if_pos z2] at hK2
            simp (disch := first | assumption | omega | (simp (disch := first | assumption | omega) only [sB, Nat.reduceAdd, Nat.reduceLT, Nat.reduceLeDiff, Nat.reduceEqDiff, Nat.reduceMul, ↓reduceIte, hG]; done) | fail) only [sA, ↓reduceIte, Nat.reduceLT, Nat.reduceEqDiff, Nat.reduceAdd, Nat.reduceLeDiff, g6, g9, b6, z1, z2, cs, hG]
            have HB : Hp 0 [] (n' + 13) ((n' + 10, (Ob.row 6 [.agg [.int .i64 (setTm 0).form, .int .i64 (setTm 0).n, .bool (setTm 0).hid, .str (setTm 0).name, slD 2 encL (setTm 0).levels, slD 6 encT (setTm 0).kids]])) :: h') := (H.box (k := 6) (r := n' + 10) (m := n' + 11) (by omega) (by omega) (flatTA (setTm 0))).mono (by omega)
            generalize hr2 : LX (cF Go.Proofs.Try.prog) (.loop l4_1) _ _ _ = rr
            obtain ⟨x, e3, n3, h3, rfl, rfl, H3, p3, b63, ⟨X, fX, b11⟩, k0, k6, k9, k10, k11⟩ := tl_in (q := n' + 10) (K := K) (T := T) (X := setTm 0) hr2 HB (by omega) (getO_keep b6 (by omega)) fine_set getO_hd (by omega) (by rw [← hK2]; simp (disch := first | assumption | omega | (simp (disch := first | assumption | omega) only [sB, Nat.reduceAdd, Nat.reduceLT, Nat.reduceLeDiff, Nat.reduceEqDiff, Nat.reduceMul, ↓reduceIte]; done) | fail) only [sA, ↓reduceIte, Nat.reduceLT, Nat.reduceEqDiff, Nat.reduceAdd, Nat.reduceLeDiff]) (by simp (disch := first | assumption | omega | (simp (disch := first | assumption | omega) only [sB, Nat.reduceAdd, Nat.reduceLT, Nat.reduceLeDiff, Nat.reduceEqDiff, Nat.reduceMul, ↓reduceIte]; done) | fail) only [sA, ↓reduceIte, Nat.reduceLT, Nat.reduceEqDiff, Nat.reduceAdd, Nat.reduceLeDiff]) (by simp (disch := first | assumption | omega | (simp (disch := first | assumption | omega) only [sB, Nat.reduceAdd, Nat.reduceLT, Nat.reduceLeDiff, Nat.reduceEqDiff, Nat.reduceMul, ↓reduceIte]; done) | fail) only [sA, ↓reduceIte, Nat.reduceLT, Nat.reduceEqDiff, Nat.reduceAdd, Nat.reduceLeDiff])
            replace k6 := k6.trans (show _ = .ptr 23 0 0 by simp (disch := first | assumption | omega | (simp (disch := first | assumption | omega) only [sB, Nat.reduceAdd, Nat.reduceLT, Nat.reduceLeDiff, Nat.reduceEqDiff, Nat.reduceMul, ↓reduceIte]; done) | fail) only [sA, ↓reduceIte, Nat.reduceLT, Nat.reduceEqDiff, Nat.reduceAdd, Nat.reduceLeDiff, g6])
            replace k9 := k9.trans (show _ = .int .i64 (j : Nat) by simp (disch := first | assumption | omega | (simp (disch := first | assumption | omega) only [sB, Nat.reduceAdd, Nat.reduceLT, Nat.reduceLeDiff, Nat.reduceEqDiff, Nat.reduceMul, ↓reduceIte]; done) | fail) only [sA, ↓reduceIte, Nat.reduceLT, Nat.reduceEqDiff, Nat.reduceAdd, Nat.reduceLeDiff, g9])
            have hG3 : ∀ m, n3 ≤ m → Gd m h3 := fun m hm => H3.good' hm
            have ca : ∀ m h, Gd m h → callFn (LX (cF Go.Proofs.Try.prog)) m h [(D.agg [.int .i64 (T).form, .int .i64 (T).n, .bool (T).hid, .str (T).name, slD 2 encL (T).levels, slD 6 encT (T).kids]), (D.agg [.int .i64 (X).form, .int .i64 (X).n, .bool (X).hid, .str (X).name, slD 2 encL (X).levels, slD 6 encT (X).kids])] (cF Go.Proofs.Try.prog 23) = _ := fun m h hg => lawApp m h hg T X
            have HS : Hp 0 [] n3 (setO h3 23 (Ob.row 6 [.agg [.int .i64 (appTm T X).form, .int .i64 (appTm T X).n, .bool (appTm T X).hid, .str (appTm T X).name, slD 2 encL (appTm T X).levels, slD 6 encT (appTm T X).kids]])) := H3.set (Nat.zero_le _) (fun k _ => lowO_one (low_flat (flatTA (appTm T X))))
            have e1 : getO (setO h3 23 (Ob.row 6 [.agg [.int .i64 (appTm T X).form, .int .i64 (appTm T X).n, .bool (appTm T X).hid, .str (appTm T X).name, slD 2 encL (appTm T X).levels, slD 6 encT (appTm T X).kids]])) 23 = (Ob.row 6 [.agg [.int .i64 (appTm T X).form, .int .i64 (appTm T X).n, .bool (appTm T X).hid, .str (appTm T X).name, slD 2 encL (appTm T X).levels, slD 6 encT (appTm T X).kids]]) := getO_set1 b63
            rw [show setO h3 23 (Ob.row 6 [.agg [.int .i64 (appTm T X).form, .int .i64 (appTm T X).n, .bool (appTm T X).hid, .str (appTm T X).name, slD 2 encL (appTm T X).levels, slD 6 encT (appTm T X).kids]]) = setO h3 23 (.row 6 [.agg [.int .i64 5, .int .i64 0, .bool false, .str [], .nils, .sl 6 [(D.agg [.int .i64 (T).form, .int .i64 (T).n, .bool (T).hid, .str (T).name, slD 2 encL (T).levels, slD 6 encT (T).kids]), (D.agg [.int .i64 (X).form, .int .i64 (X).n, .bool (X).hid, .str (X).name, slD 2 encL (X).levels, slD 6 encT (X).kids])] [] true]]) by rw [enc_app]] at HS e1
            simp (disch := first | assumption | omega | (simp (disch := first | assumption | omega) only [sB, Nat.reduceAdd, Nat.reduceLT, Nat.reduceLeDiff, Nat.reduceEqDiff, Nat.reduceMul, ↓reduceIte, hG3]; done) | fail) only [sA, ↓reduceIte, Nat.reduceLT, Nat.reduceEqDiff, Nat.reduceAdd, Nat.reduceLeDiff, k6, k9, k10, k11, b63, b11, ca, hG3]
            exact ⟨_, _, _, _, rfl, .inl ⟨rfl, j - K - 2, by omega, HS.mono (by omega), by omega, ⟨appTm T X, fine_app fT fX, e1⟩, by omega, by simp (disch := first | assumption | omega | (simp (disch := first | assumption | omega) only [sB, Nat.reduceAdd, Nat.reduceLT, Nat.reduceLeDiff, Nat.reduceEqDiff, Nat.reduceMul, ↓reduceIte]; done) | fail) only [sA, ↓reduceIte, Nat.reduceLT, Nat.reduceEqDiff, Nat.reduceAdd, Nat.reduceLeDiff, k6], by rw [show ((j - K - 2 : Nat) : Int) = (j : Int) - ((K + 1 : Nat) : Int) - 1 by omega]; simp (disch := first | assumption | omega | (simp (disch := first | assumption | omega) only [sB, Nat.reduceAdd, Nat.reduceLT, Nat.reduceLeDiff, Nat.reduceEqDiff, Nat.reduceMul, ↓reduceIte]; done) | fail) only [sA, ↓reduceIte, Nat.reduceLT, Nat.reduceEqDiff, Nat.reduceAdd, Nat.reduceLeDiff]⟩⟩
          · rw [if_neg z2] at hK2
            simp (disch := first | assumption | omega | (simp (disch := first | assumption | omega) only [sB, Nat.reduceAdd, Nat.reduceLT, Nat.reduceLeDiff, Nat.reduceEqDiff, Nat.reduceMul, ↓reduceIte, hG]; done) | fail) only [sA, ↓reduceIte, Nat.reduceLT, Nat.reduceEqDiff, Nat.reduceAdd, Nat.reduceLeDiff, g6, g9, b6, z1, z2, cs, hG]
            have HB : Hp 0 [] (n' + 12) ((n' + 9, (Ob.row 6 [.agg [.int .i64 (setTm 0).form, .int .i64 (setTm 0).n, .bool (setTm 0).hid, .str (setTm 0).name, slD 2 encL (setTm 0).levels, slD 6 encT (setTm 0).kids]])) :: h') := (H.box (k := 6) (r := n' + 9) (m := n' + 10) (by omega) (by omega) (flatTA (setTm 0))).mono (by omega)
            generalize hr2 : LX (cF Go.Proofs.Try.prog) (.loop l4_1) _ _ _ = rr
            obtain ⟨x, e3, n3, h3, rfl, rfl, H3, p3, b63, ⟨X, fX, b11⟩, k0, k6, k9, k10, k11⟩ := tl_in (q := n' + 9) (K := K) (T := T) (X := setTm 0) hr2 HB (by omega) (getO_keep b6 (by omega)) fine_set getO_hd (by omega) (by rw [← hK2]; simp (disch := first | assumption | omega | (simp (disch := first | assumption | omega) only [sB, Nat.reduceAdd, Nat.reduceLT, Nat.reduceLeDiff, Nat.reduceEqDiff, Nat.reduceMul, ↓reduceIte]; done) | fail) only [sA, ↓reduceIte, Nat.reduceLT, Nat.reduceEqDiff, Nat.reduceAdd, Nat.reduceLeDiff]) (by simp (disch := first | assumption | omega | (simp (disch := first | assumption | omega) only [sB, Nat.reduceAdd, Nat.reduceLT, Nat.reduceLeDiff, Nat.reduceEqDiff, Nat.reduceMul, ↓reduceIte]; done) | fail) only [sA, ↓reduceIte, Nat.reduceLT, Nat.reduceEqDiff, Nat.reduceAdd, Nat.reduceLeDiff]) (by simp (disch := first | assumption | omega | (simp (disch := first | assumption | omega) only [sB, Nat.reduceAdd, Nat.reduceLT, Nat.reduceLeDiff, Nat.reduceEqDiff, Nat.reduceMul, ↓reduceIte]; done) | fail) only [sA, ↓reduceIte, Nat.reduceLT, Nat.reduceEqDiff, Nat.reduceAdd, Nat.reduceLeDiff])
            replace k6 := k6.trans (show _ = .ptr 23 0 0 by simp (disch := first | assumption | omega | (simp (disch := first | assumption | omega) only [sB, Nat.reduceAdd, Nat.reduceLT, Nat.reduceLeDiff, Nat.reduceEqDiff, Nat.reduceMul, ↓reduceIte]; done) | fail) only [sA, ↓reduceIte, Nat.reduceLT, Nat.reduceEqDiff, Nat.reduceAdd, Nat.reduceLeDiff, g6])
            replace k9 := k9.trans (show _ = .int .i64 (j : Nat) by simp (disch := first | assumption | omega | (simp (disch := first | assumption | omega) only [sB, Nat.reduceAdd, Nat.reduceLT, Nat.reduceLeDiff, Nat.reduceEqDiff, Nat.reduceMul, ↓reduceIte]; done) | fail) only [sA, ↓reduceIte, Nat.reduceLT, Nat.reduceEqDiff, Nat.reduceAdd, Nat.reduceLeDiff, g9])
            have hG3 : ∀ m, n3 ≤ m → Gd m h3 := fun m hm => H3.good' hm
            have ca : ∀ m h, Gd m h → callFn (LX (cF Go.Proofs.Try.prog)) m h [(D.agg [.int .i64 (T).form, .int .i64 (T).n, .bool (T).hid, .str (T).name, slD 2 encL (T).levels, slD 6 encT (T).kids]), (D.agg [.int .i64 (X).form, .int .i64 (X).n, .bool (X).hid, .str (X).name, slD 2 encL (X).levels, slD 6 encT (X).kids])] (cF Go.Proofs.Try.prog 23) = _ := fun m h hg => lawApp m h hg T X
            have HS : Hp 0 [] n3 (setO h3 23 (Ob.row 6 [.agg [.int .i64 (appTm T X).form, .int .i64 (appTm T X).n, .bool (appTm T X).hid, .str (appTm T X).name, slD 2 encL (appTm T X).levels, slD 6 encT (appTm T X).kids]])) := H3.set (Nat.zero_le _) (fun k _ => lowO_one (low_flat (flatTA (appTm T X))))
            have e1 : getO (setO h3 23 (Ob.row 6 [.agg [.int .i64 (appTm T X).form, .int .i64 (appTm T X).n, .bool (appTm T X).hid, .str (appTm T X).name, slD 2 encL (appTm T X).levels, slD 6 encT (appTm T X).kids]])) 23 = (Ob.row 6 [.agg [.int .i64 (appTm T X).form, .int .i64 (appTm T X).n, .bool (appTm T X).hid, .str (appTm T X).name, slD 2 encL (appTm T X).levels, slD 6 encT (appTm T X).kids]]) := getO_set1 b63
            rw [show setO h3 23 (Ob.row 6 [.agg [.int .i64 (appTm T X).form, .int .i64 (appTm T X).n, .bool (appTm T X).hid, .str (appTm T X).name, slD 2 encL (appTm T X).levels, slD 6 encT (appTm T X).kids]]) = setO h3 23 (.row 6 [.agg [.int .i64 5, .int .i64 0, .bool false, .str [], .nils, .sl 6 [(D.agg [.int .i64 (T).form, .int .i64 (T).n, .bool (T).hid, .str (T).name, slD 2 encL (T).levels, slD 6 encT (T).kids]), (D.agg [.int .i64 (X).form, .int .i64 (X).n, .bool (X).hid, .str (X).name, slD 2 encL (X).levels, slD 6 encT (X).kids])] [] true]]) by rw [enc_app]] at HS e1
            simp (disch := first | assumption | omega | (simp (disch := first | assumption | omega) only [sB, Nat.reduceAdd, Nat.reduceLT, Nat.reduceLeDiff, Nat.reduceEqDiff, Nat.reduceMul, ↓reduceIte, hG3]; done) | fail) only [sA, ↓reduceIte, Nat.reduceLT, Nat.reduceEqDiff, Nat.reduceAdd, Nat.reduceLeDiff, k6, k9, k10, k11, b63, b11, ca, hG3]
            exact ⟨_, _, _, _, rfl, .inl ⟨rfl, j - K - 2, by omega, HS.mono (by omega), by omega, ⟨appTm T X, fine_app fT fX, e1⟩, by omega, by simp (disch := first | assumption | omega | (simp (disch := first | assumption | omega) only [sB, Nat.reduceAdd, Nat.reduceLT, Nat.reduceLeDiff, Nat.reduceEqDiff, Nat.reduceMul, ↓reduceIte]; done) | fail) only [sA, ↓reduceIte, Nat.reduceLT, Nat.reduceEqDiff, Nat.reduceAdd, Nat.reduceLeDiff, k6], by rw [show ((j - K - 2 : Nat) : Int) = (j : Int) - ((K + 1 : Nat) : Int) - 1 by omega]; simp (disch := first | assumption | omega | (simp (disch := first | assumption | omega) only [sB, Nat.reduceAdd, Nat.reduceLT, Nat.reduceLeDiff, Nat.reduceEqDiff, Nat.reduceMul, ↓reduceIte]; done) | fail) only [sA, ↓reduceIte, Nat.reduceLT, Nat.reduceEqDiff, Nat.reduceAdd, Nat.reduceLeDiff]⟩⟩
        · unfold l4_2
          simp (disch := first | assumption | omega | (simp (disch := first | assumption | omega) only [sB, Nat.reduceAdd, Nat.reduceLT, Nat.reduceLeDiff, Nat.reduceEqDiff, Nat.reduceMul, ↓reduceIte]; done) | fail) only [sA, ↓reduceIte, Nat.reduceLT, Nat.reduceEqDiff, Nat.reduceAdd, Nat.reduceLeDiff, g9, z1]
          exact ⟨_, _, _, _, rfl, .inr ⟨by simp, rfl, H.mono (by omega), ⟨T, fT, b6⟩, by simp (disch := first | assumption | omega | (simp (disch := first | assumption | omega) only [sB, Nat.reduceAdd, Nat.reduceLT, Nat.reduceLeDiff, Nat.reduceEqDiff, Nat.reduceMul, ↓reduceIte]; done) | fail) only [sA, ↓reduceIte, Nat.reduceLT, Nat.reduceEqDiff, Nat.reduceAdd, Nat.reduceLeDiff, g6]⟩⟩)
      (a - 1).toNat ⟨HI.mono (by omega), by omega, ⟨setTm 0, fine_set, getO_hd⟩, by omega, by simp (disch := first | assumption | omega | (simp (disch := first | assumption | omega) only [sB, Nat.reduceAdd, Nat.reduceLT, Nat.reduceLeDiff, Nat.reduceEqDiff, Nat.reduceMul, ↓reduceIte]; done) | fail) only [sA, ↓reduceIte, Nat.reduceLT, Nat.reduceEqDiff, Nat.reduceAdd, Nat.reduceLeDiff], by rw [show (((a - 1).toNat : Nat) : Int) = a - 1 by omega]; simp (disch := first | assumption | omega | (simp (disch := first | assumption | omega) only [sB, Nat.reduceAdd, Nat.reduceLT, Nat.reduceLeDiff, Nat.reduceEqDiff, Nat.reduceMul, ↓reduceIte]; done) | fail) only [sA, ↓reduceIte, Nat.reduceLT, Nat.reduceEqDiff, Nat.reduceAdd, Nat.reduceLeDiff]⟩
    have hG : ∀ m, n2 ≤ m → Gd m h2 := fun m hm => H2.good' hm
    have cc : ∀ m h, Gd m h → callFn (LX (cF Go.Proofs.Try.prog)) m h [(D.agg [.int .i64 (T).form, .int .i64 (T).n, .bool (T).hid, .str (T).name, slD 2 encL (T).levels, slD 6 encT (T).kids])] (cF Go.Proofs.Try.prog 22) = .ok (.int .i64 (checkT T.abs)) m h := pCheck T fT.2
    have cz : ∀ m h, Gd m h → callFn (LX (cF Go.Proofs.Try.prog)) m h [(D.agg [.int .i64 (T).form, .int .i64 (T).n, .bool (T).hid, .str (T).name, slD 2 encL (T).levels, slD 6 encT (T).kids])] (cF Go.Proofs.Try.prog 24) = .ok (.int .i64 (sizeV T.abs)) m h := rSize T fT.2
    have pz : ∀ m h, Gd m h → callFn (LX (cF Go.Proofs.Try.prog)) m h [(D.agg [.int .i64 (T).form, .int .i64 (T).n, .bool (T).hid, .str (T).name, slD 2 encL (T).levels, slD 6 encT (T).kids])] (cF Go.Proofs.Try.prog 25) = .ok (.int .i64 (sizeV T.abs)) m h := pSize T fT.2
    unfold sizeV at cz pz
    rw [fine_check fT] at cc cz pz
    have hp := sizeT_pos T.abs
    cases hf : fitsT T.abs with
    | true =>
      rw [hf, if_pos rfl] at cc cz pz
      rw [if_pos rfl] at cz pz
      have y4 : (sizeT T.abs : Int) > 0 := by omega
      simp (disch := first | assumption | omega | (simp (disch := first | assumption | omega) only [sB, Nat.reduceAdd, Nat.reduceLT, Nat.reduceLeDiff, Nat.reduceEqDiff, Nat.reduceMul, ↓reduceIte, hG]; done) | fail) only [sA, ↓reduceIte, Nat.reduceLT, Nat.reduceEqDiff, Nat.reduceAdd, Nat.reduceLeDiff, g6, b6, cc, cz, pz, cn, y4, F0, hG]
      exact ⟨_, _, rfl⟩
    | false =>
      rw [hf] at cc cz pz
      replace cc : ∀ m h, Gd m h → callFn (LX (cF Go.Proofs.Try.prog)) m h [(D.agg [.int .i64 (T).form, .int .i64 (T).n, .bool (T).hid, .str (T).name, slD 2 encL (T).levels, slD 6 encT (T).kids])] (cF Go.Proofs.Try.prog 22) = .ok (.int .i64 2) m h := cc
      replace cz : ∀ m h, Gd m h → callFn (LX (cF Go.Proofs.Try.prog)) m h [(D.agg [.int .i64 (T).form, .int .i64 (T).n, .bool (T).hid, .str (T).name, slD 2 encL (T).levels, slD 6 encT (T).kids])] (cF Go.Proofs.Try.prog 24) = .ok (.int .i64 0) m h := cz
      clear pz
      simp (disch := first | assumption | omega | (simp (disch := first | assumption | omega) only [sB, Nat.reduceAdd, Nat.reduceLT, Nat.reduceLeDiff, Nat.reduceEqDiff, Nat.reduceMul, ↓reduceIte, hG]; done) | fail) only [sA, ↓reduceIte, Nat.reduceLT, Nat.reduceEqDiff, Nat.reduceAdd, Nat.reduceLeDiff, g6, b6, cc, cz, cn, F0, hG]
      exact ⟨_, _, rfl⟩

set_option maxRecDepth 100000 in
theorem tl_lifted (os : Os) (started : os.Started) (H : Type) (enc : TypeId × Value → H) :
    ReturnsInHanded {} Go.Proofs.Try.checked os 4 .any (Rows.termLongSpec.pre6 enc Go.Proofs.Try.prog Go.Proofs.Try.f4 Rows.termLongRow.domain false) (Rows.termLongSpec.post enc Go.Proofs.Try.prog Go.Proofs.Try.f4 false true false false) := by
  refine law_lifted (K := noK) (C := Go.Proofs.Try.checked) (tb := 4) own started (by kernel_rfl) Go.Proofs.Try.func4
    (ChangeSpec.witness6 (enc := enc) (C := Go.Proofs.Try.checked) false ⟨#[], #[.int .i64 0, .bool false], []⟩ 8 (by kernel_rfl) (by kernel_rfl) (by kernel_rfl) (by kernel_rfl))
    mixed laidOut rowed_maps full_slices (by kernel_rfl) rfl (by kernel_rfl) rfl ?_ ?_
  · intro ds hl
    match ds, hl with
    | [_, _], _ => rfl
  · intro ds l hA
    have hA : ArgsAre Go.Proofs.Try.prog [3, 4] ds l := hA
    obtain ⟨x, y, f1, f2, rfl, h1, h2⟩ := args_two hA
    obtain ⟨k, e1, _⟩ := int_arg (k := .i64) (by kernel_rfl) h1
    obtain ⟨b, e2⟩ := bool_arg (by kernel_rfl) h2
    rw [e1, e2]
    exact tl_run k b

theorem TermLong_holds : Rows.TermLongSaid :=
  OpenClaim.holds_of_wide 4 Go.Proofs.Try.f4 rfl rfl rfl rfl rfl rfl rfl ⟨rfl, rfl, rfl, rfl, rfl⟩ rfl rfl rfl rfl rfl (by kernel_rfl) Go.Proofs.Try.func4 (by kernel_rfl)
    (of_decide_eq_true (by kernel_rfl)) (by unfold Func.isWrapper; first | (rw [if_pos (by decide +kernel)]; kernel_rfl) | (rw [if_neg (by decide +kernel)]; exact ⟨rfl, rfl⟩))
    (fun os started H enc _ => tl_lifted os started H enc)
end Go.Proofs.Ytdijijblccmfbaa
