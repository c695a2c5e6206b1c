/- LevelSubsts: what a level is with its variables replaced, and that it has the number that the replaced ones give it. No condition. -/
import Derived.Test.YtjagmfgjlfkmgaaLS
set_option linter.unusedSimpArgs false
set_option linter.unusedVariables false
namespace Go.Proofs.Ytjagmfgjlfkmgaa
open Go Go.ChangeShapes Go.WideShapes Go.ChangeAt Go.RowKit

set_option maxHeartbeats 8000000 in
set_option maxRecDepth 8000 in
theorem ls_run (N : Int) (s : Sl LV) (args : Sl SLev) (v : Sl Int) : ∃ n' h', callFn (LX (cF Go.Proofs.Try.prog)) 0 [] [(D.agg [.int .i64 (N), slD 2 encV (s)]), slD 2 encL args, slD 1 encN v] ((cF Go.Proofs.Try.prog) 13) = .ok (.bool true) n' h' := by
  rw [f13_eq]; unfold c13; rw [callFn_eq (by rfl)]
  by_cases hs : 200 < s.el.length
  · simp (disch := first | assumption | omega | (simp (disch := first | assumption | omega) only [sB, Nat.reduceAdd, Nat.reduceLT, Nat.reduceLeDiff, Nat.reduceEqDiff, Nat.reduceMul, ↓reduceIte, gd_nil, gd_lev]; done) | fail) only [sA, ↓reduceIte, Nat.reduceLT, Nat.reduceEqDiff, Nat.reduceAdd, Nat.reduceLeDiff, gAlive, gBig, hs, decide_true, gd_nil, gd_lev]
    exact ⟨_, _, rfl⟩
  by_cases ha1 : 100 < args.el.length
  · have ha1' : ((args.el.length : Nat) : Int) > 100 := by omega
    simp (disch := first | assumption | omega | (simp (disch := first | assumption | omega) only [sB, Nat.reduceAdd, Nat.reduceLT, Nat.reduceLeDiff, Nat.reduceEqDiff, Nat.reduceMul, ↓reduceIte, gd_nil, gd_lev]; done) | fail) only [sA, ↓reduceIte, Nat.reduceLT, Nat.reduceEqDiff, Nat.reduceAdd, Nat.reduceLeDiff, gAlive, gBig, hs, ha1', decide_true, decide_false, gd_nil, gd_lev]
    exact ⟨_, _, rfl⟩
  have ha1' : ¬ ((args.el.length : Nat) : Int) > 100 := by omega
  by_cases hv1 : 100 < v.el.length
  · have hv1' : ((v.el.length : Nat) : Int) > 100 := by omega
    simp (disch := first | assumption | omega | (simp (disch := first | assumption | omega) only [sB, Nat.reduceAdd, Nat.reduceLT, Nat.reduceLeDiff, Nat.reduceEqDiff, Nat.reduceMul, ↓reduceIte, gd_nil, gd_lev]; done) | fail) only [sA, ↓reduceIte, Nat.reduceLT, Nat.reduceEqDiff, Nat.reduceAdd, Nat.reduceLeDiff, gAlive, gBig, hs, ha1', hv1', decide_true, decide_false, gd_nil, gd_lev]
    exact ⟨_, _, rfl⟩
  have hv1' : ¬ ((v.el.length : Nat) : Int) > 100 := by omega
  have hl : v.el.length < 1000000000000 := by omega
  have hs1 : s.el.length ≤ 200 := by omega
  have H0 : Hp 0 [] 1 [(0, (Ob.row 2 [.agg [.int .i64 (N), slD 2 encV (s)]]))] := (Hp.start (n0 := 0) (fun _ _ => good_nil)).box (r := 0) (m := 1) (by omega) (by omega) (flatL ⟨N, s⟩)
  simp (disch := first | assumption | omega | (simp (disch := first | assumption | omega) only [sB, Nat.reduceAdd, Nat.reduceLT, Nat.reduceLeDiff, Nat.reduceEqDiff, Nat.reduceMul, ↓reduceIte, gd_nil, gd_lev]; done) | fail) only [sA, ↓reduceIte, Nat.reduceLT, Nat.reduceEqDiff, Nat.reduceAdd, Nat.reduceLeDiff, gAlive, gBig, hs, ha1', hv1', decide_true, decide_false, gd_nil, gd_lev]
  generalize hr : LX (cF Go.Proofs.Try.prog) (.loop l13_0) _ _ _ = r
  obtain ⟨x, e2, n2, h2, rfl, q⟩ := loop_up hr args.el.length
    (fun i e n' h' => Hp 0 [] n' h' ∧ 1 ≤ n' ∧ getO h' 0 = (Ob.row 2 [.agg [.int .i64 (N), slD 2 encV (s)]]) ∧ (∀ a, a ∈ args.el.take i → a.vs.el.length ≤ 200) ∧ (∃ dd, Bld 1 encN 1 ((args.el.take i).map fun a => a.lev.rawEval v.el) h' dd ∧ get (po 8) e = dd) ∧ get (po 1) e = slD 2 encL args ∧ get (po 2) e = slD 1 encN v ∧ get (po 3) e = .ptr 0 0 0 ∧ get (po 9) e = .int .i64 (i : Nat))
    (fun x e n' h' => Hp 0 [] n' h' ∧ ((x = .exit 0 ∧ 1 ≤ n' ∧ getO h' 0 = (Ob.row 2 [.agg [.int .i64 (N), slD 2 encV (s)]]) ∧ (∀ a, a ∈ args.el → a.vs.el.length ≤ 200) ∧ (∃ dd, Bld 1 encN 1 (args.el.map fun a => a.lev.rawEval v.el) h' dd ∧ get (po 8) e = dd) ∧ get (po 1) e = slD 2 encL args ∧ get (po 2) e = slD 1 encN v ∧ get (po 3) e = .ptr 0 0 0) ∨ (x = .ret ∧ get (po 6) e = .bool true)))
    (by
      rintro e n' h' ⟨H, p1, b0, hz, ⟨dd, B, g8⟩, g1, g2, g3, g9⟩
      rw [List.take_length] at hz B
      unfold l13_0
      simp (disch := first | assumption | omega | (simp (disch := first | assumption | omega) only [sB, Nat.reduceAdd, Nat.reduceLT, Nat.reduceLeDiff, Nat.reduceEqDiff, Nat.reduceMul, ↓reduceIte]; done) | fail) only [sA, ↓reduceIte, Nat.reduceLT, Nat.reduceEqDiff, Nat.reduceAdd, Nat.reduceLeDiff, g1, g9]
      exact ⟨_, _, _, _, rfl, by simp, H.mono (by omega), .inl ⟨rfl, by omega, b0, hz, ⟨dd, B, by simp (disch := first | assumption | omega | (simp (disch := first | assumption | omega) only [sB, Nat.reduceAdd, Nat.reduceLT, Nat.reduceLeDiff, Nat.reduceEqDiff, Nat.reduceMul, ↓reduceIte]; done) | fail) only [sA, ↓reduceIte, Nat.reduceLT, Nat.reduceEqDiff, Nat.reduceAdd, Nat.reduceLeDiff, g8]⟩, by simp (disch := first | assumption | omega | (simp (disch := first | assumption | omega) only [sB, Nat.reduceAdd, Nat.reduceLT, Nat.reduceLeDiff, Nat.reduceEqDiff, Nat.reduceMul, ↓reduceIte]; done) | fail) only [sA, ↓reduceIte, Nat.reduceLT, Nat.reduceEqDiff, Nat.reduceAdd, Nat.reduceLeDiff, g1], by simp (disch := first | assumption | omega | (simp (disch := first | assumption | omega) only [sB, Nat.reduceAdd, Nat.reduceLT, Nat.reduceLeDiff, Nat.reduceEqDiff, Nat.reduceMul, ↓reduceIte]; done) | fail) only [sA, ↓reduceIte, Nat.reduceLT, Nat.reduceEqDiff, Nat.reduceAdd, Nat.reduceLeDiff, g2], by simp (disch := first | assumption | omega | (simp (disch := first | assumption | omega) only [sB, Nat.reduceAdd, Nat.reduceLT, Nat.reduceLeDiff, Nat.reduceEqDiff, Nat.reduceMul, ↓reduceIte]; done) | fail) only [sA, ↓reduceIte, Nat.reduceLT, Nat.reduceEqDiff, Nat.reduceAdd, Nat.reduceLeDiff, g3]⟩⟩)
    (by
      rintro i e n' h' hi ⟨H, p1, b0, hz, ⟨dd, B, g8⟩, g1, g2, g3, g9⟩
      have hG : ∀ m, n' ≤ m → Gd m h' := fun m hm => H.good' hm
      unfold l13_0
      by_cases a1 : 200 < args.el[i].vs.el.length
      · simp (disch := first | assumption | omega | (simp (disch := first | assumption | omega) only [sB, Nat.reduceAdd, Nat.reduceLT, Nat.reduceLeDiff, Nat.reduceEqDiff, Nat.reduceMul, ↓reduceIte, hG]; done) | fail) only [sA, ↓reduceIte, Nat.reduceLT, Nat.reduceEqDiff, Nat.reduceAdd, Nat.reduceLeDiff, g1, g9, encL, gBig, a1, decide_true, hG]
        exact ⟨_, _, _, _, rfl, .inr ⟨by simp, H.mono (by omega), .inr ⟨rfl, by simp (disch := first | assumption | omega | (simp (disch := first | assumption | omega) only [sB, Nat.reduceAdd, Nat.reduceLT, Nat.reduceLeDiff, Nat.reduceEqDiff, Nat.reduceMul, ↓reduceIte]; done) | fail) only [sA, ↓reduceIte, Nat.reduceLT, Nat.reduceEqDiff, Nat.reduceAdd, Nat.reduceLeDiff]⟩⟩⟩
      · have a2 : args.el[i].vs.el.length ≤ 200 := by omega
        have c1 : ∀ m h, Gd m h → _ := fun m h hg => gREval (m := m) (h := h) (N := args.el[i].n) (s := args.el[i].vs) a2 hl hg
        obtain ⟨D', H', A⟩ := app_bldx (b := 8) B H (by omega) p1 lowN [args.el[i].lev.rawEval v.el] (by simp; omega)
        have A1 := fun m hm => (A m hm).1
        have A2 := fun m hm => (A m hm).2.1
        have A3 := fun m hm => (A m hm).2.2.1
        have A4 := fun m hm => (A m hm).2.2.2.1
        simp only [encN, List.map_cons, List.map_nil] at A1
        replace A1 : ∀ m, n' ≤ m → appD m h' 1 8 dd (.ok 1 [.int .i64 (Lev.rawEval ⟨args.el[i].n, args.el[i].vs.el⟩ v.el)]) = .ok (D' m) m (H' m) := A1
        have hd1 := B.okD
        have hd2 : ∀ m, n' ≤ m → okD m (H' m) (D' m) = .ok (D' m) m (H' m) := fun m hm => (A2 m hm).okD m (H' m)
        have hd3 : ∀ m m' h'', n' ≤ m → okD m' h'' (D' m) = .ok (D' m) m' h'' := fun m m' h'' hm => (A2 m hm).okD m' h''
        simp (disch := first | assumption | omega | (simp (disch := first | assumption | omega) only [sB, Nat.reduceAdd, Nat.reduceLT, Nat.reduceLeDiff, Nat.reduceEqDiff, Nat.reduceMul, ↓reduceIte, hG]; done) | fail) only [sA, ↓reduceIte, Nat.reduceLT, Nat.reduceEqDiff, Nat.reduceAdd, Nat.reduceLeDiff, g1, g2, g8, g9, encL, gBig, a1, c1, A1, hd1, hd3, decide_false, hG]
        exact ⟨_, _, _, _, rfl, .inl ⟨rfl, (A3 _ (by omega)).mono (by omega), by omega, (A4 _ (by omega) 0 (by omega)).trans b0, fun a ha => by
          rw [List.take_succ_eq_append_getElem hi] at ha
          rcases List.mem_append.1 ha with ha | ha
          · exact hz a ha
          · rw [List.mem_singleton.1 ha]; exact a2, ⟨D' (n' + 19), by
          rw [List.take_succ_eq_append_getElem hi, List.map_append]
          exact A2 _ (by omega), by simp (disch := first | assumption | omega | (simp (disch := first | assumption | omega) only [sB, Nat.reduceAdd, Nat.reduceLT, Nat.reduceLeDiff, Nat.reduceEqDiff, Nat.reduceMul, ↓reduceIte]; done) | fail) only [sA, ↓reduceIte, Nat.reduceLT, Nat.reduceEqDiff, Nat.reduceAdd, Nat.reduceLeDiff]⟩, by simp (disch := first | assumption | omega | (simp (disch := first | assumption | omega) only [sB, Nat.reduceAdd, Nat.reduceLT, Nat.reduceLeDiff, Nat.reduceEqDiff, Nat.reduceMul, ↓reduceIte]; done) | fail) only [sA, ↓reduceIte, Nat.reduceLT, Nat.reduceEqDiff, Nat.reduceAdd, Nat.reduceLeDiff, g1], by simp (disch := first | assumption | omega | (simp (disch := first | assumption | omega) only [sB, Nat.reduceAdd, Nat.reduceLT, Nat.reduceLeDiff, Nat.reduceEqDiff, Nat.reduceMul, ↓reduceIte]; done) | fail) only [sA, ↓reduceIte, Nat.reduceLT, Nat.reduceEqDiff, Nat.reduceAdd, Nat.reduceLeDiff, g2], by simp (disch := first | assumption | omega | (simp (disch := first | assumption | omega) only [sB, Nat.reduceAdd, Nat.reduceLT, Nat.reduceLeDiff, Nat.reduceEqDiff, Nat.reduceMul, ↓reduceIte]; done) | fail) only [sA, ↓reduceIte, Nat.reduceLT, Nat.reduceEqDiff, Nat.reduceAdd, Nat.reduceLeDiff, g3], by simp (disch := first | assumption | omega | (simp (disch := first | assumption | omega) only [sB, Nat.reduceAdd, Nat.reduceLT, Nat.reduceLeDiff, Nat.reduceEqDiff, Nat.reduceMul, ↓reduceIte]; done) | fail) only [sA, ↓reduceIte, Nat.reduceLT, Nat.reduceEqDiff, Nat.reduceAdd, Nat.reduceLeDiff]⟩⟩)
    ⟨H0.mono (by omega), by omega, by simp (disch := first | assumption | omega | (simp (disch := first | assumption | omega) only [sB, Nat.reduceAdd, Nat.reduceLT, Nat.reduceLeDiff, Nat.reduceEqDiff, Nat.reduceMul, ↓reduceIte]; done) | fail) only [sA, ↓reduceIte, Nat.reduceLT, Nat.reduceEqDiff, Nat.reduceAdd, Nat.reduceLeDiff], by simp, ⟨.nils, .inl ⟨rfl, rfl⟩, by simp (disch := first | assumption | omega | (simp (disch := first | assumption | omega) only [sB, Nat.reduceAdd, Nat.reduceLT, Nat.reduceLeDiff, Nat.reduceEqDiff, Nat.reduceMul, ↓reduceIte]; done) | fail) only [sA, ↓reduceIte, Nat.reduceLT, Nat.reduceEqDiff, Nat.reduceAdd, Nat.reduceLeDiff]⟩, by simp (disch := first | assumption | omega | (simp (disch := first | assumption | omega) only [sB, Nat.reduceAdd, Nat.reduceLT, Nat.reduceLeDiff, Nat.reduceEqDiff, Nat.reduceMul, ↓reduceIte]; done) | fail) only [sA, ↓reduceIte, Nat.reduceLT, Nat.reduceEqDiff, Nat.reduceAdd, Nat.reduceLeDiff], by simp (disch := first | assumption | omega | (simp (disch := first | assumption | omega) only [sB, Nat.reduceAdd, Nat.reduceLT, Nat.reduceLeDiff, Nat.reduceEqDiff, Nat.reduceMul, ↓reduceIte]; done) | fail) only [sA, ↓reduceIte, Nat.reduceLT, Nat.reduceEqDiff, Nat.reduceAdd, Nat.reduceLeDiff], by simp (disch := first | assumption | omega | (simp (disch := first | assumption | omega) only [sB, Nat.reduceAdd, Nat.reduceLT, Nat.reduceLeDiff, Nat.reduceEqDiff, Nat.reduceMul, ↓reduceIte]; done) | fail) only [sA, ↓reduceIte, Nat.reduceLT, Nat.reduceEqDiff, Nat.reduceAdd, Nat.reduceLeDiff], by simp (disch := first | assumption | omega | (simp (disch := first | assumption | omega) only [sB, Nat.reduceAdd, Nat.reduceLT, Nat.reduceLeDiff, Nat.reduceEqDiff, Nat.reduceMul, ↓reduceIte]; done) | fail) only [sA, ↓reduceIte, Nat.reduceLT, Nat.reduceEqDiff, Nat.reduceAdd, Nat.reduceLeDiff]⟩
  obtain ⟨H, q⟩ := q
  rcases q with ⟨rfl, p1, b0, hz, ⟨dd, B, g8⟩, g1, g2, g3⟩ | ⟨rfl, g6⟩
  case inr =>
    simp (disch := first | assumption | omega | (simp (disch := first | assumption | omega) only [sB, Nat.reduceAdd, Nat.reduceLT, Nat.reduceLeDiff, Nat.reduceEqDiff, Nat.reduceMul, ↓reduceIte]; done) | fail) only [sA, ↓reduceIte, Nat.reduceLT, Nat.reduceEqDiff, Nat.reduceAdd, Nat.reduceLeDiff, g6, finish_flat (d := .bool true) rfl H]
    exact ⟨_, _, rfl⟩
  simp (disch := first | assumption | omega | (simp (disch := first | assumption | omega) only [sB, Nat.reduceAdd, Nat.reduceLT, Nat.reduceLeDiff, Nat.reduceEqDiff, Nat.reduceMul, ↓reduceIte]; done) | fail) only [sA, ↓reduceIte, Nat.reduceLT, Nat.reduceEqDiff, Nat.reduceAdd, Nat.reduceLeDiff]
  generalize hr : LX (cF Go.Proofs.Try.prog) (.loop l13_1) _ _ _ = r
  obtain ⟨x, e3, n3, h3, rfl, q⟩ := loop_up hr v.el.length
    (fun i e n' h' => h' = h2 ∧ n2 ≤ n' ∧ (∀ x, x ∈ v.el.take i → x ≤ 1000000) ∧ get (po 1) e = slD 2 encL args ∧ get (po 2) e = slD 1 encN v ∧ get (po 3) e = .ptr 0 0 0 ∧ get (po 8) e = dd ∧ get (po 10) e = .int .i64 (i : Nat))
    (fun x e n' h' => h' = h2 ∧ n2 ≤ n' ∧ ((x = .exit 2 ∧ (∀ x, x ∈ v.el → x ≤ 1000000) ∧ get (po 1) e = slD 2 encL args ∧ get (po 2) e = slD 1 encN v ∧ get (po 3) e = .ptr 0 0 0 ∧ get (po 8) e = dd) ∨ (x = .ret ∧ get (po 6) e = .bool true)))
    (by
      rintro e n' h' ⟨rfl, p1, hall, g1, g2, g3, g8, g10⟩
      rw [List.take_length] at hall
      unfold l13_1
      simp (disch := first | assumption | omega | (simp (disch := first | assumption | omega) only [sB, Nat.reduceAdd, Nat.reduceLT, Nat.reduceLeDiff, Nat.reduceEqDiff, Nat.reduceMul, ↓reduceIte]; done) | fail) only [sA, ↓reduceIte, Nat.reduceLT, Nat.reduceEqDiff, Nat.reduceAdd, Nat.reduceLeDiff, g2, g10]
      exact ⟨_, _, _, _, rfl, by simp, rfl, by omega, .inl ⟨rfl, hall, by simp (disch := first | assumption | omega | (simp (disch := first | assumption | omega) only [sB, Nat.reduceAdd, Nat.reduceLT, Nat.reduceLeDiff, Nat.reduceEqDiff, Nat.reduceMul, ↓reduceIte]; done) | fail) only [sA, ↓reduceIte, Nat.reduceLT, Nat.reduceEqDiff, Nat.reduceAdd, Nat.reduceLeDiff, g1], by simp (disch := first | assumption | omega | (simp (disch := first | assumption | omega) only [sB, Nat.reduceAdd, Nat.reduceLT, Nat.reduceLeDiff, Nat.reduceEqDiff, Nat.reduceMul, ↓reduceIte]; done) | fail) only [sA, ↓reduceIte, Nat.reduceLT, Nat.reduceEqDiff, Nat.reduceAdd, Nat.reduceLeDiff, g2], by simp (disch := first | assumption | omega | (simp (disch := first | assumption | omega) only [sB, Nat.reduceAdd, Nat.reduceLT, Nat.reduceLeDiff, Nat.reduceEqDiff, Nat.reduceMul, ↓reduceIte]; done) | fail) only [sA, ↓reduceIte, Nat.reduceLT, Nat.reduceEqDiff, Nat.reduceAdd, Nat.reduceLeDiff, g3], by simp (disch := first | assumption | omega | (simp (disch := first | assumption | omega) only [sB, Nat.reduceAdd, Nat.reduceLT, Nat.reduceLeDiff, Nat.reduceEqDiff, Nat.reduceMul, ↓reduceIte]; done) | fail) only [sA, ↓reduceIte, Nat.reduceLT, Nat.reduceEqDiff, Nat.reduceAdd, Nat.reduceLeDiff, g8]⟩⟩)
    (by
      rintro i e n' h' hi ⟨rfl, p1, hall, g1, g2, g3, g8, g10⟩
      unfold l13_1
      by_cases a1 : v.el[i] > 1000000
      · simp (disch := first | assumption | omega | (simp (disch := first | assumption | omega) only [sB, Nat.reduceAdd, Nat.reduceLT, Nat.reduceLeDiff, Nat.reduceEqDiff, Nat.reduceMul, ↓reduceIte]; done) | fail) only [sA, ↓reduceIte, Nat.reduceLT, Nat.reduceEqDiff, Nat.reduceAdd, Nat.reduceLeDiff, g2, g10, encN, a1]
        exact ⟨_, _, _, _, rfl, .inr ⟨by simp, rfl, by omega, .inr ⟨rfl, by simp (disch := first | assumption | omega | (simp (disch := first | assumption | omega) only [sB, Nat.reduceAdd, Nat.reduceLT, Nat.reduceLeDiff, Nat.reduceEqDiff, Nat.reduceMul, ↓reduceIte]; done) | fail) only [sA, ↓reduceIte, Nat.reduceLT, Nat.reduceEqDiff, Nat.reduceAdd, Nat.reduceLeDiff]⟩⟩⟩
      · simp (disch := first | assumption | omega | (simp (disch := first | assumption | omega) only [sB, Nat.reduceAdd, Nat.reduceLT, Nat.reduceLeDiff, Nat.reduceEqDiff, Nat.reduceMul, ↓reduceIte]; done) | fail) only [sA, ↓reduceIte, Nat.reduceLT, Nat.reduceEqDiff, Nat.reduceAdd, Nat.reduceLeDiff, g2, g10, encN, a1]
        exact ⟨_, _, _, _, rfl, .inl ⟨rfl, rfl, by omega, fun x hx => by
          rw [List.take_succ_eq_append_getElem hi] at hx
          rcases List.mem_append.1 hx with hx | hx
          · exact hall x hx
          · rw [List.mem_singleton.1 hx]; omega, by simp (disch := first | assumption | omega | (simp (disch := first | assumption | omega) only [sB, Nat.reduceAdd, Nat.reduceLT, Nat.reduceLeDiff, Nat.reduceEqDiff, Nat.reduceMul, ↓reduceIte]; done) | fail) only [sA, ↓reduceIte, Nat.reduceLT, Nat.reduceEqDiff, Nat.reduceAdd, Nat.reduceLeDiff, g1], by simp (disch := first | assumption | omega | (simp (disch := first | assumption | omega) only [sB, Nat.reduceAdd, Nat.reduceLT, Nat.reduceLeDiff, Nat.reduceEqDiff, Nat.reduceMul, ↓reduceIte]; done) | fail) only [sA, ↓reduceIte, Nat.reduceLT, Nat.reduceEqDiff, Nat.reduceAdd, Nat.reduceLeDiff, g2], by simp (disch := first | assumption | omega | (simp (disch := first | assumption | omega) only [sB, Nat.reduceAdd, Nat.reduceLT, Nat.reduceLeDiff, Nat.reduceEqDiff, Nat.reduceMul, ↓reduceIte]; done) | fail) only [sA, ↓reduceIte, Nat.reduceLT, Nat.reduceEqDiff, Nat.reduceAdd, Nat.reduceLeDiff, g3], by simp (disch := first | assumption | omega | (simp (disch := first | assumption | omega) only [sB, Nat.reduceAdd, Nat.reduceLT, Nat.reduceLeDiff, Nat.reduceEqDiff, Nat.reduceMul, ↓reduceIte]; done) | fail) only [sA, ↓reduceIte, Nat.reduceLT, Nat.reduceEqDiff, Nat.reduceAdd, Nat.reduceLeDiff, g8], by simp (disch := first | assumption | omega | (simp (disch := first | assumption | omega) only [sB, Nat.reduceAdd, Nat.reduceLT, Nat.reduceLeDiff, Nat.reduceEqDiff, Nat.reduceMul, ↓reduceIte]; done) | fail) only [sA, ↓reduceIte, Nat.reduceLT, Nat.reduceEqDiff, Nat.reduceAdd, Nat.reduceLeDiff]⟩⟩)
    ⟨rfl, by omega, by simp, by simp (disch := first | assumption | omega | (simp (disch := first | assumption | omega) only [sB, Nat.reduceAdd, Nat.reduceLT, Nat.reduceLeDiff, Nat.reduceEqDiff, Nat.reduceMul, ↓reduceIte]; done) | fail) only [sA, ↓reduceIte, Nat.reduceLT, Nat.reduceEqDiff, Nat.reduceAdd, Nat.reduceLeDiff, g1], by simp (disch := first | assumption | omega | (simp (disch := first | assumption | omega) only [sB, Nat.reduceAdd, Nat.reduceLT, Nat.reduceLeDiff, Nat.reduceEqDiff, Nat.reduceMul, ↓reduceIte]; done) | fail) only [sA, ↓reduceIte, Nat.reduceLT, Nat.reduceEqDiff, Nat.reduceAdd, Nat.reduceLeDiff, g2], by simp (disch := first | assumption | omega | (simp (disch := first | assumption | omega) only [sB, Nat.reduceAdd, Nat.reduceLT, Nat.reduceLeDiff, Nat.reduceEqDiff, Nat.reduceMul, ↓reduceIte]; done) | fail) only [sA, ↓reduceIte, Nat.reduceLT, Nat.reduceEqDiff, Nat.reduceAdd, Nat.reduceLeDiff, g3], by simp (disch := first | assumption | omega | (simp (disch := first | assumption | omega) only [sB, Nat.reduceAdd, Nat.reduceLT, Nat.reduceLeDiff, Nat.reduceEqDiff, Nat.reduceMul, ↓reduceIte]; done) | fail) only [sA, ↓reduceIte, Nat.reduceLT, Nat.reduceEqDiff, Nat.reduceAdd, Nat.reduceLeDiff, g8], by simp (disch := first | assumption | omega | (simp (disch := first | assumption | omega) only [sB, Nat.reduceAdd, Nat.reduceLT, Nat.reduceLeDiff, Nat.reduceEqDiff, Nat.reduceMul, ↓reduceIte]; done) | fail) only [sA, ↓reduceIte, Nat.reduceLT, Nat.reduceEqDiff, Nat.reduceAdd, Nat.reduceLeDiff]⟩
  obtain ⟨rfl, p3, q⟩ := q
  clear g1 g2 g3 g8
  rcases q with ⟨rfl, hall, g1, g2, g3, g8⟩ | ⟨rfl, g6⟩
  case inr =>
    simp (disch := first | assumption | omega | (simp (disch := first | assumption | omega) only [sB, Nat.reduceAdd, Nat.reduceLT, Nat.reduceLeDiff, Nat.reduceEqDiff, Nat.reduceMul, ↓reduceIte]; done) | fail) only [sA, ↓reduceIte, Nat.reduceLT, Nat.reduceEqDiff, Nat.reduceAdd, Nat.reduceLeDiff, g6, finish_flat (d := .bool true) rfl (H.mono p3)]
    exact ⟨_, _, rfl⟩
  have hG : ∀ m, n3 ≤ m → Gd m h3 := fun m hm => H.good' (by omega)
  have hin : (args.el.map fun a => a.lev.rawEval v.el) = (args.el.map SLev.lev).map fun a => a.eval v.el := by
    rw [List.map_map]
    exact List.map_congr_left (fun a _ => raw_low (fun x hx => by have := hall x hx; omega))
  have hlow : ∀ x, x ∈ (args.el.map SLev.lev).map (fun a => a.eval v.el) → x ≤ 2000000 := fun x hx => by
    obtain ⟨a, _, rfl⟩ := List.mem_map.1 hx
    have := (eval_low (a := a) hall).2
    omega
  have hlen : ((args.el.map SLev.lev).map fun a => a.eval v.el).length ≤ 100 := by rw [List.length_map, List.length_map]; omega
  rw [hin] at B
  have c1 : ∀ m h, Gd m h → _ := fun m h hg => gSub (m := m) (h := h) (N := N) (s := s) hs1 (by omega) hz hg
  have c2 : ∀ m h, Gd m h → _ := fun m h hg => gRSub (m := m) (h := h) (N := N) (s := s) hs1 (by omega) hz hg
  have z1 := rsub_size ⟨N, s.el⟩ (args.el.map SLev.lev)
  have f1 := fun hh => eval_sub (l := ⟨N, s.el⟩) (args := args.el.map SLev.lev) (v := v.el) hh
  rw [← raw_low hlow] at f1
  generalize Lev.rsubst ⟨N, s.el⟩ (args.el.map SLev.lev) = R at c1 c2 z1 f1
  generalize ((args.el.map SLev.lev).map fun a => a.eval v.el) = In at B f1 hlow hlen
  obtain ⟨⟨n1, v1⟩, e1⟩ := R
  have z2 : (Sl.app v1).el.length ≤ 200 := sz_app (Nat.le_trans z1 (by decide))
  have d1 : ∀ m h, Gd m h → _ := fun m h hg => gEval (m := m) (h := h) (N := n1) (s := Sl.app v1) z2 hall hl hg
  have d2 : ∀ m h, Gd m h → _ := fun m h hg => gExact (m := m) (h := h) (N := n1) (N' := n1) (s := Sl.app v1) (s' := Sl.app v1) z2 z2 hg
  have hd8 := B.okD
  obtain ⟨ad, S⟩ := B.si (H.good n3 p3)
  have H3 : Hp n3 h3 (n3 + 18) ((n3 + 17, (Ob.row 2 [.agg [.int .i64 (n1), slD 2 encV (Sl.app v1)]])) :: (n3 + 7, (Ob.row 2 [.agg [.int .i64 (n1), slD 2 encV (Sl.app v1)]])) :: h3) := ((Hp.start (fun k hk => H.good k (by omega))).box (r := n3 + 7) (m := n3 + 8) (by omega) (by omega) (flatL ⟨n1, Sl.app v1⟩)).box (r := n3 + 17) (m := n3 + 18) (by omega) (by omega) (flatL ⟨n1, Sl.app v1⟩)
  have HF : Hp 0 [] (n3 + 18) ((n3 + 17, (Ob.row 2 [.agg [.int .i64 (n1), slD 2 encV (Sl.app v1)]])) :: (n3 + 7, (Ob.row 2 [.agg [.int .i64 (n1), slD 2 encV (Sl.app v1)]])) :: h3) := (H.box (r := n3 + 7) (m := n3 + 8) (by omega) (by omega) (flatL ⟨n1, Sl.app v1⟩)).box (r := n3 + 17) (m := n3 + 18) (by omega) (by omega) (flatL ⟨n1, Sl.app v1⟩)
  have F4 := fun m hm => finish_flat (d := .bool true) rfl (HF.mono (m := m) hm)
  by_cases k1 : e1 = 0
  · subst k1
    have f2 : Lev.eval ⟨n1, (Sl.app v1).el⟩ v.el = Lev.rawEval ⟨N, s.el⟩ In := f1 rfl
    rw [f2] at d1
    have d3 : ∀ m, n3 + 18 ≤ m → callFn (LX (cF Go.Proofs.Try.prog)) m ((n3 + 17, (Ob.row 2 [.agg [.int .i64 (n1), slD 2 encV (Sl.app v1)]])) :: (n3 + 7, (Ob.row 2 [.agg [.int .i64 (n1), slD 2 encV (Sl.app v1)]])) :: h3) [(D.agg [.int .i64 (N), slD 2 encV (s)]), dd] (cF Go.Proofs.Try.prog 46) = .ok (.int .i64 (Lev.rawEval ⟨N, s.el⟩ In)) m ((n3 + 17, (Ob.row 2 [.agg [.int .i64 (n1), slD 2 encV (Sl.app v1)]])) :: (n3 + 7, (Ob.row 2 [.agg [.int .i64 (n1), slD 2 encV (Sl.app v1)]])) :: h3) := fun m hm => refEvalS m _ (H3.good' hm) N s (by omega) dd In ad ⟨S.len, S.idx, fun h' hq => S.ld h' (fun q h1 => by rw [hq q (by omega), H3.get h1]), S.okD⟩ (by omega)
    simp (disch := first | assumption | omega | (simp (disch := first | assumption | omega) only [sB, Nat.reduceAdd, Nat.reduceLT, Nat.reduceLeDiff, Nat.reduceEqDiff, Nat.reduceMul, ↓reduceIte, gd_nil, gd_lev, gd_zero, hG]; done) | fail) only [sA, ↓reduceIte, Nat.reduceLT, Nat.reduceEqDiff, Nat.reduceAdd, Nat.reduceLeDiff, g1, g2, g3, g8, b0, c1, c2, gNum, d1, d2, d3, hd8, keys_gd, and_self, decide_true, F4, gd_nil, gd_lev, gd_zero, hG]
    exact ⟨_, _, rfl⟩
  · simp (disch := first | assumption | omega | (simp (disch := first | assumption | omega) only [sB, Nat.reduceAdd, Nat.reduceLT, Nat.reduceLeDiff, Nat.reduceEqDiff, Nat.reduceMul, ↓reduceIte, gd_lev, gd_zero, hG]; done) | fail) only [sA, ↓reduceIte, Nat.reduceLT, Nat.reduceEqDiff, Nat.reduceAdd, Nat.reduceLeDiff, g1, g2, g3, b0, c1, c2, gNum, d2, and_self, decide_true, k1, F4, gd_lev, gd_zero, hG]
    exact ⟨_, _, rfl⟩

set_option maxRecDepth 100000 in
theorem ls_lifted (os : Os) (started : os.Started) (H : Type) (enc : TypeId × Value → H) :
    ReturnsInHanded {} Go.Proofs.Try.checked os 13 .any (Rows.levelSubstsSpec.pre6 enc Go.Proofs.Try.prog Go.Proofs.Try.f13 Rows.levelSubstsRow.domain false) (Rows.levelSubstsSpec.post enc Go.Proofs.Try.prog Go.Proofs.Try.f13 false true false false) := by
  refine law_lifted (C := Go.Proofs.Try.checked) (tb := 4) own started (by kernel_rfl) Go.Proofs.Try.func13
    (ChangeSpec.witness6 (enc := enc) (C := Go.Proofs.Try.checked) false ⟨#[], #[.agg #[.int .i64 0, .slice none 0 0], .slice none 0 0, .slice none 0 0], []⟩ 8 (by kernel_rfl) (by kernel_rfl) (by kernel_rfl) (by kernel_rfl))
    mixed laidOut rowed_maps full_slices (by kernel_rfl) rfl (by kernel_rfl) rfl ?_ ?_
  · intro ds hl
    match ds, hl with
    | [_, _, _], _ => rfl
  · intro ds l hA
    have hA : ArgsAre Go.Proofs.Try.prog [43, 72, 29] ds l := hA
    obtain ⟨x, y, z, f1, f2, f3, rfl, h1, h2, h3⟩ := args_three hA
    obtain ⟨l1, e1⟩ := lev_arg _ _ h1
    obtain ⟨args, e2, _, _⟩ := slice_arg (k := 2) (enc := encL) (R := fun _ _ => True) Go.Proofs.Try.underlying72 (by kernel_rfl) h2 (fun g' y _ hy => by
      obtain ⟨l, e⟩ := lev_arg _ _ hy
      exact ⟨l, e, trivial⟩)
    obtain ⟨v, e4, _, _⟩ := slice_arg (k := 1) (enc := encN) (R := fun _ _ => True) Go.Proofs.Try.underlying29 (by kernel_rfl) h3 (fun g' y _ hy => by
      obtain ⟨i, e, _⟩ := int_arg Go.Proofs.Try.underlying3 hy
      exact ⟨i, e, trivial⟩)
    rw [e1, e2, e4]
    exact ls_run l1.n l1.vs args v

theorem LevelSubsts_holds : Rows.LevelSubstsSaid :=
  OpenClaim.holds_of_wide 13 Go.Proofs.Try.f13 rfl rfl rfl rfl rfl rfl rfl ⟨rfl, rfl, rfl, rfl, rfl⟩ rfl rfl rfl rfl rfl (by kernel_rfl) Go.Proofs.Try.func13 (by kernel_rfl)
    (of_decide_eq_true (by kernel_rfl)) (by unfold Func.isWrapper; first | (rw [if_pos (by decide +kernel)]; kernel_rfl) | (rw [if_neg (by decide +kernel)]; exact ⟨rfl, rfl⟩))
    (fun os started H enc _ => ls_lifted os started H enc)
end Go.Proofs.Ytjagmfgjlfkmgaa
