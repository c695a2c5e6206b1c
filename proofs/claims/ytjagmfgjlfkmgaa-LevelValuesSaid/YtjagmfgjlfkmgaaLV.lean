/- LevelValues: the comparison, the greater one, and what is n more hold of the numbers that levels have. No condition. -/
import Derived.Test.YtjagmfgjlfkmgaaLU
import Derived.Test.YtjagmfgjlfkmgaaLO
set_option linter.unusedSimpArgs false
set_option linter.unusedVariables false
namespace Go.Proofs.Ytjagmfgjlfkmgaa
open Go Go.ChangeShapes Go.WideShapes Go.ChangeAt Go.RowKit

theorem val_le {x : Int} (r : Int → Int) : ∀ (l : List LV) (N : Int), x ≤ Lev.val ⟨N, l⟩ r ↔ x ≤ N ∨ ∃ q, q ∈ l ∧ x ≤ r q.1 + q.2
  | [], N => by simp [Lev.val]
  | p :: t, N => by
    show x ≤ Lev.val ⟨max N (r p.1 + p.2), t⟩ r ↔ _
    rw [val_le r t]
    constructor
    · rintro (h | ⟨q, hq, h⟩)
      · rcases Int.le_total N (r p.1 + p.2) with h' | h'
        · rw [Int.max_eq_right h'] at h; exact .inr ⟨p, List.mem_cons_self .., h⟩
        · rw [Int.max_eq_left h'] at h; exact .inl h
      · exact .inr ⟨q, List.mem_cons_of_mem _ hq, h⟩
    · rintro (h | ⟨q, hq, h⟩)
      · left; exact Int.le_trans h (Int.le_max_left _ _)
      · rcases List.mem_cons.1 hq with rfl | hq
        · left; exact Int.le_trans h (Int.le_max_right _ _)
        · exact .inr ⟨q, hq, h⟩
theorem val_le' {x : Int} (r : Int → Int) (l : Lev) : x ≤ l.val r ↔ x ≤ l.n ∨ ∃ q, q ∈ l.v ∧ x ≤ r q.1 + q.2 := val_le r l.v l.n
theorem int_eq {a b : Int} (h : ∀ x : Int, x ≤ a ↔ x ≤ b) : a = b := Int.le_antisymm ((h a).1 (Int.le_refl _)) ((h b).2 (Int.le_refl _))
theorem val_mono {a b : Lev} {r : Int → Int} (hr : ∀ i, 0 ≤ r i) (h : LeqP a b) : a.val r ≤ b.val r := by
  have : ∀ x, x ≤ a.val r → x ≤ b.val r := by
    intro x hx
    rw [val_le'] at hx ⊢
    rcases hx with hx | ⟨p, hp, hx⟩
    · rcases h.1 with h' | ⟨q, hq, h'⟩
      · exact .inl (by omega)
      · have := hr q.1
        exact .inr ⟨q, hq, by omega⟩
    · obtain ⟨q, hq, e1, e2⟩ := h.2 p hp
      rw [e1] at hx
      exact .inr ⟨q, hq, by omega⟩
  exact this _ (Int.le_refl _)
theorem val_norm {a : Lev} {r : Int → Int} (hr : ∀ i, 0 ≤ r i) (h : 0 ≤ a.n) : a.norm.val r = a.val r := Int.le_antisymm (val_mono hr (leq_norm2 a h)) (val_mono hr (leq_norm1 a h))
theorem val_join {a b : Lev} {r : Int → Int} (hr : ∀ i, 0 ≤ r i) (ha : Srt a.v) (hb : Srt b.v) : (a.join b).val r = max (a.val r) (b.val r) := by
  have l1 := val_mono hr (leq_join1 ha hb)
  have l2 := val_mono hr (leq_join2 ha hb)
  apply Int.le_antisymm
  · have : ∀ x, x ≤ (a.join b).val r → x ≤ max (a.val r) (b.val r) := by
      intro x hx
      rw [val_le'] at hx
      have e1 : ∀ y, y ≤ a.val r → y ≤ max (a.val r) (b.val r) := fun y h => Int.le_trans h (Int.le_max_left _ _)
      have e2 : ∀ y, y ≤ b.val r → y ≤ max (a.val r) (b.val r) := fun y h => Int.le_trans h (Int.le_max_right _ _)
      rcases hx with hx | ⟨p, hp, hx⟩
      · replace hx : x ≤ max a.n b.n := hx
        rcases Int.le_total a.n b.n with h | h
        · rw [Int.max_eq_right h] at hx; exact e2 x ((val_le' r b).2 (.inl hx))
        · rw [Int.max_eq_left h] at hx; exact e1 x ((val_le' r a).2 (.inl hx))
      · rcases List.mem_append.1 ((merge_nf ha hb).sub p hp) with hp | hp
        · exact e1 x ((val_le' r a).2 (.inr ⟨p, hp, hx⟩))
        · exact e2 x ((val_le' r b).2 (.inr ⟨p, hp, hx⟩))
    exact this _ (Int.le_refl _)
  · omega
theorem val_more {a : Lev} {k : Int} {r : Int → Int} : (a.more k).val r = a.val r + k := by
  apply int_eq
  intro x
  rw [val_le', show x ≤ a.val r + k ↔ x - k ≤ a.val r by omega, val_le']
  constructor
  · rintro (h | ⟨q, hq, h⟩)
    · left; have h : x ≤ a.n + k := h; omega
    · obtain ⟨p, hp, rfl⟩ := List.mem_map.1 hq
      have h : x ≤ r p.1 + (p.2 + k) := h
      exact .inr ⟨p, hp, by omega⟩
  · rintro (h | ⟨q, hq, h⟩)
    · left; show x ≤ a.n + k; omega
    · exact .inr ⟨addV k q, List.mem_map.2 ⟨q, hq, rfl⟩, by show x ≤ r q.1 + (q.2 + k); omega⟩
theorem max_right {a b : Lev} (h : (a.max2 b).2 = 0) : a.right = true ∧ b.right = true := by
  unfold Lev.max2 at h
  cases ha : a.right
  · rw [ha] at h; simp at h
  · cases hb : b.right
    · rw [ha, hb] at h; simp at h
    · exact ⟨rfl, rfl⟩
theorem suc_right {a : Lev} {k : Int} (h : (a.suc k).2 = 0) : a.right = true ∧ 0 ≤ k ∧ k ≤ 1000 := by
  unfold Lev.suc at h
  cases ha : a.right
  · rw [ha] at h; simp at h
  · rw [ha, if_pos rfl] at h
    by_cases h1 : k < 0
    · rw [if_pos h1] at h; exact absurd h (by decide)
    · rw [if_neg h1] at h
      by_cases h2 : 1000 < k
      · rw [if_pos h2] at h; exact absurd h (by decide)
      · exact ⟨rfl, by omega, by omega⟩
theorem eval_right {a : Lev} {v : List Int} (h : a.right = true) : a.eval v = a.val (rv v) := by unfold Lev.eval; rw [if_pos h]
theorem eval_max {a b : Lev} {v : List Int} (h : (a.max2 b).2 = 0) : (a.max2 b).1.eval v = max (a.eval v) (b.eval v) := by
  obtain ⟨ha, hb⟩ := max_right h
  have e : a.max2 b = (a.norm.join b.norm).told := by unfold Lev.max2; rw [if_pos ha, if_pos hb]
  rw [e] at h ⊢
  obtain ⟨e1, hr⟩ := told_right h
  have ha0 := (right_iff.1 ha).1.1
  have hb0 := (right_iff.1 hb).1.1
  have j0 : 0 ≤ (a.norm.join b.norm).n := Int.le_trans (zn_pos ha0 : 0 ≤ a.norm.n) (Int.le_max_left _ _)
  rw [e1, eval_right hr, eval_right ha, eval_right hb, val_norm (rv_pos v) j0, val_join (rv_pos v) (nfL_nf a.v).srt (nfL_nf b.v).srt, val_norm (rv_pos v) ha0, val_norm (rv_pos v) hb0]
theorem eval_suc {a : Lev} {k : Int} {v : List Int} (h : (a.suc k).2 = 0) : (a.suc k).1.eval v = a.eval v + k := by
  obtain ⟨ha, h1, h2⟩ := suc_right h
  have e : a.suc k = (a.norm.more k).told := by unfold Lev.suc; rw [if_pos ha, if_neg (by omega), if_neg (by omega)]
  rw [e] at h ⊢
  obtain ⟨e1, hr⟩ := told_right h
  have ha0 := (right_iff.1 ha).1.1
  have n0 : 0 ≤ a.norm.n := zn_pos ha0
  have j0 : 0 ≤ (a.norm.more k).n := by show 0 ≤ a.norm.n + k; omega
  rw [e1, eval_right hr, eval_right ha, val_norm (rv_pos v) j0, val_more, val_norm (rv_pos v) ha0]
theorem eval_leq {a b : Lev} {v : List Int} (h : Lev.leq a b = true) : a.eval v ≤ b.eval v := by
  have hr : a.right = true ∧ b.right = true := by
    unfold Lev.leq at h
    rw [Bool.and_eq_true, Bool.and_eq_true] at h
    exact h.1
  rw [eval_right hr.1, eval_right hr.2]
  exact val_mono (rv_pos v) ((leq_iff hr.1 hr.2).1 h)
theorem eval_low {a : Lev} {v : List Int} (hv : ∀ x, x ∈ v → x ≤ 1000000) : 0 ≤ a.eval v ∧ a.eval v ≤ 1001000 := by
  unfold Lev.eval
  split
  · rename_i h
    obtain ⟨hN, _, hV⟩ := right_iff.1 h
    refine ⟨(val_le' _ _).2 (.inl hN.1), ?_⟩
    have := (val_le' (rv v) a).1 (Int.le_refl (a.val (rv v)))
    rcases this with h | ⟨q, hq, h⟩
    · omega
    · have := hV q hq
      have hr : rv v q.1 ≤ 1000000 := by
        unfold rv
        split
        · rename_i x hx
          have := hv x (List.mem_of_getElem? hx)
          omega
        · decide
      omega
  · decide

theorem gf_levc {m r k : Nat} {N : Int} {s : Sl LV} {t : Hps} (h : r < m) : GF m ((r, .row k [(D.agg [.int .i64 (N), slD 2 encV (s)])]) :: t) = GF m t := by
  rw [gf_lev]; simp only [h, true_and]
theorem gf_zeroc {m r k : Nat} {t : Hps} (h : r < m) : GF m ((r, .row k [.agg [.int .i64 0, .nils]]) :: t) = GF m t := by
  rw [gf_zero]; simp only [h, true_and]
theorem kEval {m : Nat} {h : Hps} {N : Int} {s : Sl LV} {v : Sl Int} (hs : s.el.length ≤ 200) (hv : ∀ x, x ∈ v.el → x ≤ 1000000) (hl : v.el.length < 1000000000000) (hg : GF m h) : callFn (LX (cF Go.Proofs.Try.prog)) m h [(D.agg [.int .i64 (N), slD 2 encV (s)]), slD 1 encN v] (cF Go.Proofs.Try.prog 49) = .ok (.int .i64 (Lev.eval ⟨N, s.el⟩ v.el)) m h := lvEval m h hg.good N s (by omega) v hv hl
theorem kREval {m : Nat} {h : Hps} {N : Int} {s : Sl LV} {v : Sl Int} (hs : s.el.length ≤ 200) (hv : ∀ x, x ∈ v.el → x ≤ 1000000) (hl : v.el.length < 1000000000000) (hg : GF m h) : callFn (LX (cF Go.Proofs.Try.prog)) m h [(D.agg [.int .i64 (N), slD 2 encV (s)]), slD 1 encN v] (cF Go.Proofs.Try.prog 46) = .ok (.int .i64 (Lev.eval ⟨N, s.el⟩ v.el)) m h := refEval m h hg.good N s (by omega) v hv hl
theorem kBound {m : Nat} {h : Hps} {N : Int} {s : Sl LV} (hs : s.el.length ≤ 200) (hg : GF m h) : callFn (LX (cF Go.Proofs.Try.prog)) m h [(D.agg [.int .i64 (N), slD 2 encV (s)])] (cF Go.Proofs.Try.prog 53) = .ok (.int .i64 (Lev.bound ⟨N, s.el⟩)) m h := lvBound m h hg.good N s (by omega)
theorem kRBound {m : Nat} {h : Hps} {N : Int} {s : Sl LV} (hs : s.el.length ≤ 200) (hg : GF m h) : callFn (LX (cF Go.Proofs.Try.prog)) m h [(D.agg [.int .i64 (N), slD 2 encV (s)])] (cF Go.Proofs.Try.prog 54) = .ok (.int .i64 (Lev.bound ⟨N, s.el⟩)) m h := refBound m h hg.good N s (by omega)
theorem kMax2 {m : Nat} {h : Hps} {a b : Int} (hg : GF m h) : callFn (LX (cF Go.Proofs.Try.prog)) m h [.int .i64 a, .int .i64 b] (cF Go.Proofs.Try.prog 55) = .ok (.int .i64 (max a b)) m h := lawMax2 m h hg.good a b

set_option maxHeartbeats 8000000 in
set_option maxRecDepth 8000 in
theorem lv_run (N N' k : Int) (s s' : Sl LV) (v : Sl Int) : ∃ n' h', callFn (LX (cF Go.Proofs.Try.prog)) 0 [] [(D.agg [.int .i64 (N), slD 2 encV (s)]), (D.agg [.int .i64 (N'), slD 2 encV (s')]), .int .i64 k, slD 1 encN v] ((cF Go.Proofs.Try.prog) 16) = .ok (.bool true) n' h' := by
  rw [f16_eq]; unfold c16; rw [callFn_eq (by rfl)]
  by_cases hs : 200 < s.el.length
  · simp (disch := first | assumption | omega | (simp (disch := first | assumption | omega) only [flatA0, flatA1, flatA2, flatA3, flatA4, Nat.reduceAdd, Nat.reduceLT, Nat.reduceLeDiff, Nat.reduceEqDiff, Nat.reduceMul, ↓reduceIte, gf_nil, gf_levc, gf_zeroc]; done) | fail) only [stepA0, stepA1, stepA2, stepA3, stepA4, stepA5, stepA6, stepA7, stepA8, stepA9, ↓reduceIte, Nat.reduceLT, Nat.reduceEqDiff, Nat.reduceAdd, Nat.reduceLeDiff, kAlive, kBig, hs, decide_true, gf_nil, gf_levc, gf_zeroc]
    exact ⟨_, _, rfl⟩
  by_cases hs' : 200 < s'.el.length
  · simp (disch := first | assumption | omega | (simp (disch := first | assumption | omega) only [flatA0, flatA1, flatA2, flatA3, flatA4, Nat.reduceAdd, Nat.reduceLT, Nat.reduceLeDiff, Nat.reduceEqDiff, Nat.reduceMul, ↓reduceIte, gf_nil, gf_levc, gf_zeroc]; done) | fail) only [stepA0, stepA1, stepA2, stepA3, stepA4, stepA5, stepA6, stepA7, stepA8, stepA9, ↓reduceIte, Nat.reduceLT, Nat.reduceEqDiff, Nat.reduceAdd, Nat.reduceLeDiff, kAlive, kBig, hs, hs', decide_true, decide_false, gf_nil, gf_levc, gf_zeroc]
    exact ⟨_, _, rfl⟩
  by_cases hv1 : 100 < v.el.length
  · have hv1' : ((v.el.length : Nat) : Int) > 100 := by omega
    simp (disch := first | assumption | omega | (simp (disch := first | assumption | omega) only [flatA0, flatA1, flatA2, flatA3, flatA4, Nat.reduceAdd, Nat.reduceLT, Nat.reduceLeDiff, Nat.reduceEqDiff, Nat.reduceMul, ↓reduceIte, gf_nil, gf_levc, gf_zeroc]; done) | fail) only [stepA0, stepA1, stepA2, stepA3, stepA4, stepA5, stepA6, stepA7, stepA8, stepA9, ↓reduceIte, Nat.reduceLT, Nat.reduceEqDiff, Nat.reduceAdd, Nat.reduceLeDiff, kAlive, kBig, hs, hs', hv1', decide_true, decide_false, gf_nil, gf_levc, gf_zeroc]
    exact ⟨_, _, rfl⟩
  have hl : v.el.length < 1000000000000 := by omega
  have hv1' : ¬ ((v.el.length : Nat) : Int) > 100 := by omega
  by_cases hk1 : k < 0
  · simp (disch := first | assumption | omega | (simp (disch := first | assumption | omega) only [flatA0, flatA1, flatA2, flatA3, flatA4, Nat.reduceAdd, Nat.reduceLT, Nat.reduceLeDiff, Nat.reduceEqDiff, Nat.reduceMul, ↓reduceIte, gf_nil, gf_levc, gf_zeroc]; done) | fail) only [stepA0, stepA1, stepA2, stepA3, stepA4, stepA5, stepA6, stepA7, stepA8, stepA9, ↓reduceIte, Nat.reduceLT, Nat.reduceEqDiff, Nat.reduceAdd, Nat.reduceLeDiff, kAlive, kBig, hs, hs', hv1', hk1, decide_true, decide_false, gf_nil, gf_levc, gf_zeroc]
    exact ⟨_, _, rfl⟩
  by_cases hk2 : k > 100
  · simp (disch := first | assumption | omega | (simp (disch := first | assumption | omega) only [flatA0, flatA1, flatA2, flatA3, flatA4, Nat.reduceAdd, Nat.reduceLT, Nat.reduceLeDiff, Nat.reduceEqDiff, Nat.reduceMul, ↓reduceIte, gf_nil, gf_levc, gf_zeroc]; done) | fail) only [stepA0, stepA1, stepA2, stepA3, stepA4, stepA5, stepA6, stepA7, stepA8, stepA9, ↓reduceIte, Nat.reduceLT, Nat.reduceEqDiff, Nat.reduceAdd, Nat.reduceLeDiff, kAlive, kBig, hs, hs', hv1', hk1, hk2, decide_true, decide_false, gf_nil, gf_levc, gf_zeroc]
    exact ⟨_, _, rfl⟩
  have hs1 : s.el.length ≤ 200 := by omega
  have hs2 : s'.el.length ≤ 200 := by omega
  simp (disch := first | assumption | omega | (simp (disch := first | assumption | omega) only [flatA0, flatA1, flatA2, flatA3, flatA4, Nat.reduceAdd, Nat.reduceLT, Nat.reduceLeDiff, Nat.reduceEqDiff, Nat.reduceMul, ↓reduceIte, gf_nil, gf_levc, gf_zeroc]; done) | fail) only [stepA0, stepA1, stepA2, stepA3, stepA4, stepA5, stepA6, stepA7, stepA8, stepA9, ↓reduceIte, Nat.reduceLT, Nat.reduceEqDiff, Nat.reduceAdd, Nat.reduceLeDiff, kAlive, kBig, hs, hs', hv1', hk1, hk2, decide_true, decide_false, gf_nil, gf_levc, gf_zeroc]
  generalize hr : LX (cF Go.Proofs.Try.prog) (.loop l16_0) _ _ _ = r
  obtain ⟨x, e2, n2, h2, rfl, rfl, p2, q⟩ := loop_up hr v.el.length
    (fun i e n' h' => h' = [(1, (Ob.row 2 [.agg [.int .i64 (N'), slD 2 encV (s')]])), (0, (Ob.row 2 [.agg [.int .i64 (N), slD 2 encV (s)]]))] ∧ 2 ≤ n' ∧ (∀ x, x ∈ v.el.take i → x ≤ 1000000) ∧ get (po 2) e = .int .i64 k ∧ get (po 3) e = slD 1 encN v ∧ get (po 4) e = .ptr 0 0 0 ∧ get (po 5) e = .ptr 1 0 0 ∧ get (po 10) e = .int .i64 (i : Nat))
    (fun x e n' h' => h' = [(1, (Ob.row 2 [.agg [.int .i64 (N'), slD 2 encV (s')]])), (0, (Ob.row 2 [.agg [.int .i64 (N), slD 2 encV (s)]]))] ∧ 2 ≤ n' ∧ ((x = .exit 0 ∧ (∀ x, x ∈ v.el → x ≤ 1000000) ∧ get (po 2) e = .int .i64 k ∧ get (po 3) e = slD 1 encN v ∧ get (po 4) e = .ptr 0 0 0 ∧ get (po 5) e = .ptr 1 0 0) ∨ (x = .ret ∧ get (po 8) e = .bool true)))
    (by
      rintro e n' h' ⟨rfl, p1, hall, g2, g3, g4, g5, g10⟩
      rw [List.take_length] at hall
      unfold l16_0
      simp (disch := first | assumption | omega | (simp (disch := first | assumption | omega) only [flatA0, flatA1, flatA2, flatA3, flatA4, Nat.reduceAdd, Nat.reduceLT, Nat.reduceLeDiff, Nat.reduceEqDiff, Nat.reduceMul, ↓reduceIte]; done) | fail) only [stepA0, stepA1, stepA2, stepA3, stepA4, stepA5, stepA6, stepA7, stepA8, stepA9, ↓reduceIte, Nat.reduceLT, Nat.reduceEqDiff, Nat.reduceAdd, Nat.reduceLeDiff, g3, g10]
      exact ⟨_, _, _, _, rfl, by simp, rfl, by omega, .inl ⟨rfl, hall, by simp (disch := first | assumption | omega | (simp (disch := first | assumption | omega) only [flatA0, flatA1, flatA2, flatA3, flatA4, Nat.reduceAdd, Nat.reduceLT, Nat.reduceLeDiff, Nat.reduceEqDiff, Nat.reduceMul, ↓reduceIte]; done) | fail) only [stepA0, stepA1, stepA2, stepA3, stepA4, stepA5, stepA6, stepA7, stepA8, stepA9, ↓reduceIte, Nat.reduceLT, Nat.reduceEqDiff, Nat.reduceAdd, Nat.reduceLeDiff, g2], by simp (disch := first | assumption | omega | (simp (disch := first | assumption | omega) only [flatA0, flatA1, flatA2, flatA3, flatA4, Nat.reduceAdd, Nat.reduceLT, Nat.reduceLeDiff, Nat.reduceEqDiff, Nat.reduceMul, ↓reduceIte]; done) | fail) only [stepA0, stepA1, stepA2, stepA3, stepA4, stepA5, stepA6, stepA7, stepA8, stepA9, ↓reduceIte, Nat.reduceLT, Nat.reduceEqDiff, Nat.reduceAdd, Nat.reduceLeDiff, g3], by simp (disch := first | assumption | omega | (simp (disch := first | assumption | omega) only [flatA0, flatA1, flatA2, flatA3, flatA4, Nat.reduceAdd, Nat.reduceLT, Nat.reduceLeDiff, Nat.reduceEqDiff, Nat.reduceMul, ↓reduceIte]; done) | fail) only [stepA0, stepA1, stepA2, stepA3, stepA4, stepA5, stepA6, stepA7, stepA8, stepA9, ↓reduceIte, Nat.reduceLT, Nat.reduceEqDiff, Nat.reduceAdd, Nat.reduceLeDiff, g4], by simp (disch := first | assumption | omega | (simp (disch := first | assumption | omega) only [flatA0, flatA1, flatA2, flatA3, flatA4, Nat.reduceAdd, Nat.reduceLT, Nat.reduceLeDiff, Nat.reduceEqDiff, Nat.reduceMul, ↓reduceIte]; done) | fail) only [stepA0, stepA1, stepA2, stepA3, stepA4, stepA5, stepA6, stepA7, stepA8, stepA9, ↓reduceIte, Nat.reduceLT, Nat.reduceEqDiff, Nat.reduceAdd, Nat.reduceLeDiff, g5]⟩⟩)
    (by
      rintro i e n' h' hi ⟨rfl, p1, hall, g2, g3, g4, g5, g10⟩
      unfold l16_0
      by_cases a1 : v.el[i] > 1000000
      · simp (disch := first | assumption | omega | (simp (disch := first | assumption | omega) only [flatA0, flatA1, flatA2, flatA3, flatA4, Nat.reduceAdd, Nat.reduceLT, Nat.reduceLeDiff, Nat.reduceEqDiff, Nat.reduceMul, ↓reduceIte]; done) | fail) only [stepA0, stepA1, stepA2, stepA3, stepA4, stepA5, stepA6, stepA7, stepA8, stepA9, ↓reduceIte, Nat.reduceLT, Nat.reduceEqDiff, Nat.reduceAdd, Nat.reduceLeDiff, g3, g10, encN, a1]
        exact ⟨_, _, _, _, rfl, .inr ⟨by simp, rfl, by omega, .inr ⟨rfl, by simp (disch := first | assumption | omega | (simp (disch := first | assumption | omega) only [flatA0, flatA1, flatA2, flatA3, flatA4, Nat.reduceAdd, Nat.reduceLT, Nat.reduceLeDiff, Nat.reduceEqDiff, Nat.reduceMul, ↓reduceIte]; done) | fail) only [stepA0, stepA1, stepA2, stepA3, stepA4, stepA5, stepA6, stepA7, stepA8, stepA9, ↓reduceIte, Nat.reduceLT, Nat.reduceEqDiff, Nat.reduceAdd, Nat.reduceLeDiff]⟩⟩⟩
      · simp (disch := first | assumption | omega | (simp (disch := first | assumption | omega) only [flatA0, flatA1, flatA2, flatA3, flatA4, Nat.reduceAdd, Nat.reduceLT, Nat.reduceLeDiff, Nat.reduceEqDiff, Nat.reduceMul, ↓reduceIte]; done) | fail) only [stepA0, stepA1, stepA2, stepA3, stepA4, stepA5, stepA6, stepA7, stepA8, stepA9, ↓reduceIte, Nat.reduceLT, Nat.reduceEqDiff, Nat.reduceAdd, Nat.reduceLeDiff, g3, g10, encN, a1]
        exact ⟨_, _, _, _, rfl, .inl ⟨rfl, rfl, by omega, fun x hx => by
          rw [List.take_succ_eq_append_getElem hi] at hx
          rcases List.mem_append.1 hx with hx | hx
          · exact hall x hx
          · rw [List.mem_singleton.1 hx]; omega, by simp (disch := first | assumption | omega | (simp (disch := first | assumption | omega) only [flatA0, flatA1, flatA2, flatA3, flatA4, Nat.reduceAdd, Nat.reduceLT, Nat.reduceLeDiff, Nat.reduceEqDiff, Nat.reduceMul, ↓reduceIte]; done) | fail) only [stepA0, stepA1, stepA2, stepA3, stepA4, stepA5, stepA6, stepA7, stepA8, stepA9, ↓reduceIte, Nat.reduceLT, Nat.reduceEqDiff, Nat.reduceAdd, Nat.reduceLeDiff, g2], by simp (disch := first | assumption | omega | (simp (disch := first | assumption | omega) only [flatA0, flatA1, flatA2, flatA3, flatA4, Nat.reduceAdd, Nat.reduceLT, Nat.reduceLeDiff, Nat.reduceEqDiff, Nat.reduceMul, ↓reduceIte]; done) | fail) only [stepA0, stepA1, stepA2, stepA3, stepA4, stepA5, stepA6, stepA7, stepA8, stepA9, ↓reduceIte, Nat.reduceLT, Nat.reduceEqDiff, Nat.reduceAdd, Nat.reduceLeDiff, g3], by simp (disch := first | assumption | omega | (simp (disch := first | assumption | omega) only [flatA0, flatA1, flatA2, flatA3, flatA4, Nat.reduceAdd, Nat.reduceLT, Nat.reduceLeDiff, Nat.reduceEqDiff, Nat.reduceMul, ↓reduceIte]; done) | fail) only [stepA0, stepA1, stepA2, stepA3, stepA4, stepA5, stepA6, stepA7, stepA8, stepA9, ↓reduceIte, Nat.reduceLT, Nat.reduceEqDiff, Nat.reduceAdd, Nat.reduceLeDiff, g4], by simp (disch := first | assumption | omega | (simp (disch := first | assumption | omega) only [flatA0, flatA1, flatA2, flatA3, flatA4, Nat.reduceAdd, Nat.reduceLT, Nat.reduceLeDiff, Nat.reduceEqDiff, Nat.reduceMul, ↓reduceIte]; done) | fail) only [stepA0, stepA1, stepA2, stepA3, stepA4, stepA5, stepA6, stepA7, stepA8, stepA9, ↓reduceIte, Nat.reduceLT, Nat.reduceEqDiff, Nat.reduceAdd, Nat.reduceLeDiff, g5], by simp (disch := first | assumption | omega | (simp (disch := first | assumption | omega) only [flatA0, flatA1, flatA2, flatA3, flatA4, Nat.reduceAdd, Nat.reduceLT, Nat.reduceLeDiff, Nat.reduceEqDiff, Nat.reduceMul, ↓reduceIte]; done) | fail) only [stepA0, stepA1, stepA2, stepA3, stepA4, stepA5, stepA6, stepA7, stepA8, stepA9, ↓reduceIte, Nat.reduceLT, Nat.reduceEqDiff, Nat.reduceAdd, Nat.reduceLeDiff]⟩⟩)
    ⟨rfl, by omega, by simp, by simp (disch := first | assumption | omega | (simp (disch := first | assumption | omega) only [flatA0, flatA1, flatA2, flatA3, flatA4, Nat.reduceAdd, Nat.reduceLT, Nat.reduceLeDiff, Nat.reduceEqDiff, Nat.reduceMul, ↓reduceIte]; done) | fail) only [stepA0, stepA1, stepA2, stepA3, stepA4, stepA5, stepA6, stepA7, stepA8, stepA9, ↓reduceIte, Nat.reduceLT, Nat.reduceEqDiff, Nat.reduceAdd, Nat.reduceLeDiff], by simp (disch := first | assumption | omega | (simp (disch := first | assumption | omega) only [flatA0, flatA1, flatA2, flatA3, flatA4, Nat.reduceAdd, Nat.reduceLT, Nat.reduceLeDiff, Nat.reduceEqDiff, Nat.reduceMul, ↓reduceIte]; done) | fail) only [stepA0, stepA1, stepA2, stepA3, stepA4, stepA5, stepA6, stepA7, stepA8, stepA9, ↓reduceIte, Nat.reduceLT, Nat.reduceEqDiff, Nat.reduceAdd, Nat.reduceLeDiff], by simp (disch := first | assumption | omega | (simp (disch := first | assumption | omega) only [flatA0, flatA1, flatA2, flatA3, flatA4, Nat.reduceAdd, Nat.reduceLT, Nat.reduceLeDiff, Nat.reduceEqDiff, Nat.reduceMul, ↓reduceIte]; done) | fail) only [stepA0, stepA1, stepA2, stepA3, stepA4, stepA5, stepA6, stepA7, stepA8, stepA9, ↓reduceIte, Nat.reduceLT, Nat.reduceEqDiff, Nat.reduceAdd, Nat.reduceLeDiff], by simp (disch := first | assumption | omega | (simp (disch := first | assumption | omega) only [flatA0, flatA1, flatA2, flatA3, flatA4, Nat.reduceAdd, Nat.reduceLT, Nat.reduceLeDiff, Nat.reduceEqDiff, Nat.reduceMul, ↓reduceIte]; done) | fail) only [stepA0, stepA1, stepA2, stepA3, stepA4, stepA5, stepA6, stepA7, stepA8, stepA9, ↓reduceIte, Nat.reduceLT, Nat.reduceEqDiff, Nat.reduceAdd, Nat.reduceLeDiff], by simp (disch := first | assumption | omega | (simp (disch := first | assumption | omega) only [flatA0, flatA1, flatA2, flatA3, flatA4, Nat.reduceAdd, Nat.reduceLT, Nat.reduceLeDiff, Nat.reduceEqDiff, Nat.reduceMul, ↓reduceIte]; done) | fail) only [stepA0, stepA1, stepA2, stepA3, stepA4, stepA5, stepA6, stepA7, stepA8, stepA9, ↓reduceIte, Nat.reduceLT, Nat.reduceEqDiff, Nat.reduceAdd, Nat.reduceLeDiff]⟩
  have HG : GF n2 [(1, (Ob.row 2 [.agg [.int .i64 (N'), slD 2 encV (s')]])), (0, (Ob.row 2 [.agg [.int .i64 (N), slD 2 encV (s)]]))] := by
    simp only [gf_lev, gf_nil, and_true]; omega
  rcases q with ⟨rfl, hall, g2, g3, g4, g5⟩ | ⟨rfl, g8⟩
  · have a1 : ∀ m h, GF m h → _ := fun m h hg => kEval (m := m) (h := h) (N := N) hs1 hall hl hg
    have a2 : ∀ m h, GF m h → _ := fun m h hg => kEval (m := m) (h := h) (N := N') hs2 hall hl hg
    have a3 : ∀ m h, GF m h → _ := fun m h hg => kREval (m := m) (h := h) (N := N) hs1 hall hl hg
    have a4 : ∀ m h, GF m h → _ := fun m h hg => kBound (m := m) (h := h) (N := N) hs1 hg
    have a5 : ∀ m h, GF m h → _ := fun m h hg => kRBound (m := m) (h := h) (N := N) hs1 hg
    have a6 : ∀ m h, GF m h → _ := fun m h hg => kLeq (m := m) (h := h) (N := N) (N' := N') hs1 hs2 hg
    have c1 : ∀ m h, GF m h → _ := fun m h hg => kMax (m := m) (h := h) (N := N) (N' := N') hs1 hs2 hg
    have c2 : ∀ m h, GF m h → _ := fun m h hg => kSuc (m := m) (h := h) (N := N) (k := k) hs1 hg
    have z1 := suc_size ⟨N, s.el⟩ k
    have z2 := max_size ⟨N, s.el⟩ ⟨N', s'.el⟩
    have f1 := fun hh => eval_leq (a := ⟨N, s.el⟩) (b := ⟨N', s'.el⟩) (v := v.el) hh
    have f2 := fun hh => eval_max (a := ⟨N, s.el⟩) (b := ⟨N', s'.el⟩) (v := v.el) hh
    have f3 := fun hh => eval_suc (a := ⟨N, s.el⟩) (k := k) (v := v.el) hh
    have y1 := eval_low (a := ⟨N, s.el⟩) hall
    have y2 := eval_low (a := ⟨N', s'.el⟩) hall
    generalize Lev.eval ⟨N, s.el⟩ v.el = X1 at a1 a3 f1 f2 f3 y1
    generalize Lev.eval ⟨N', s'.el⟩ v.el = X2 at a2 f1 f2 y2
    generalize Lev.bound ⟨N, s.el⟩ = X3 at a4 a5
    generalize Lev.leq ⟨N, s.el⟩ ⟨N', s'.el⟩ = L at a6 f1
    generalize Lev.max2 ⟨N, s.el⟩ ⟨N', s'.el⟩ = R1 at c1 z2 f2
    generalize Lev.suc ⟨N, s.el⟩ k = R2 at c2 z1 f3
    obtain ⟨⟨n1, v1⟩, e1⟩ := R1
    obtain ⟨⟨n2', v2⟩, e3⟩ := R2
    have d1 : ∀ m h, GF m h → _ := fun m h hg => kEval (m := m) (h := h) (N := n1) (s := Sl.app v1) (sz_app (Nat.le_trans z2 (by decide))) hall hl hg
    have d2 : ∀ m h, GF m h → _ := fun m h hg => kEval (m := m) (h := h) (N := n2') (s := Sl.app v2) (sz_app (Nat.le_trans z1 (by decide))) hall hl hg
    replace f2 : e1 = 0 → Lev.eval ⟨n1, (Sl.app v1).el⟩ v.el = max X1 X2 := f2
    replace f3 : e3 = 0 → Lev.eval ⟨n2', (Sl.app v2).el⟩ v.el = X1 + k := f3
    have hL : L = true → ¬ X1 > X2 := fun e => by have := f1 e; omega
    simp (disch := first | assumption | omega | (simp (disch := first | assumption | omega) only [flatA0, flatA1, flatA2, flatA3, flatA4, Nat.reduceAdd, Nat.reduceLT, Nat.reduceLeDiff, Nat.reduceEqDiff, Nat.reduceMul, ↓reduceIte, gf_nil, gf_levc, gf_zeroc]; done) | fail) only [stepA0, stepA1, stepA2, stepA3, stepA4, stepA5, stepA6, stepA7, stepA8, stepA9, ↓reduceIte, Nat.reduceLT, Nat.reduceEqDiff, Nat.reduceAdd, Nat.reduceLeDiff, g2, g3, g4, g5, a1, a2, a3, a4, a5, keys_gf, decide_true, decide_false, gf_nil, gf_levc, gf_zeroc]
    generalize hn3 : n2 + 13194139533325 = n3
    have p3 : 2 ≤ n3 := by omega
    clear hn3 hr p2 HG
    cases L with
    | true =>
      have hx := hL rfl
      by_cases k1 : e1 = 0
      · subst k1
        rw [f2 rfl] at d1
        by_cases k2 : e3 = 0
        · subst k2
          rw [f3 rfl] at d2
          as_aux_lemma =>
            simp (disch := first | assumption | omega | (simp (disch := first | assumption | omega) only [flatA0, flatA1, flatA2, flatA3, flatA4, Nat.reduceAdd, Nat.reduceLT, Nat.reduceLeDiff, Nat.reduceEqDiff, Nat.reduceMul, ↓reduceIte, gf_nil, gf_levc, gf_zeroc]; done) | fail) only [stepA0, stepA1, stepA2, stepA3, stepA4, stepA5, stepA6, stepA7, stepA8, stepA9, ↓reduceIte, Nat.reduceLT, Nat.reduceEqDiff, Nat.reduceAdd, Nat.reduceLeDiff, g2, g3, g4, g5, a6, hx, c1, c2, kNum, kMax2, d1, d2, gf_nil, gf_levc, gf_zeroc]
            exact ⟨_, _, rfl⟩
        · as_aux_lemma =>
            simp (disch := first | assumption | omega | (simp (disch := first | assumption | omega) only [flatA0, flatA1, flatA2, flatA3, flatA4, Nat.reduceAdd, Nat.reduceLT, Nat.reduceLeDiff, Nat.reduceEqDiff, Nat.reduceMul, ↓reduceIte, gf_nil, gf_levc, gf_zeroc]; done) | fail) only [stepA0, stepA1, stepA2, stepA3, stepA4, stepA5, stepA6, stepA7, stepA8, stepA9, ↓reduceIte, Nat.reduceLT, Nat.reduceEqDiff, Nat.reduceAdd, Nat.reduceLeDiff, g2, g3, g4, g5, a6, hx, c1, c2, kNum, kMax2, d1, k2, gf_nil, gf_levc, gf_zeroc]
            exact ⟨_, _, rfl⟩
      · by_cases k2 : e3 = 0
        · subst k2
          rw [f3 rfl] at d2
          as_aux_lemma =>
            simp (disch := first | assumption | omega | (simp (disch := first | assumption | omega) only [flatA0, flatA1, flatA2, flatA3, flatA4, Nat.reduceAdd, Nat.reduceLT, Nat.reduceLeDiff, Nat.reduceEqDiff, Nat.reduceMul, ↓reduceIte, gf_nil, gf_levc, gf_zeroc]; done) | fail) only [stepA0, stepA1, stepA2, stepA3, stepA4, stepA5, stepA6, stepA7, stepA8, stepA9, ↓reduceIte, Nat.reduceLT, Nat.reduceEqDiff, Nat.reduceAdd, Nat.reduceLeDiff, g2, g3, g4, g5, a6, hx, c1, c2, kNum, kMax2, d2, k1, gf_nil, gf_levc, gf_zeroc]
            exact ⟨_, _, rfl⟩
        · as_aux_lemma =>
            simp (disch := first | assumption | omega | (simp (disch := first | assumption | omega) only [flatA0, flatA1, flatA2, flatA3, flatA4, Nat.reduceAdd, Nat.reduceLT, Nat.reduceLeDiff, Nat.reduceEqDiff, Nat.reduceMul, ↓reduceIte, gf_nil, gf_levc, gf_zeroc]; done) | fail) only [stepA0, stepA1, stepA2, stepA3, stepA4, stepA5, stepA6, stepA7, stepA8, stepA9, ↓reduceIte, Nat.reduceLT, Nat.reduceEqDiff, Nat.reduceAdd, Nat.reduceLeDiff, g2, g3, g4, g5, a6, hx, c1, c2, kNum, kMax2, k1, k2, gf_nil, gf_levc, gf_zeroc]
            exact ⟨_, _, rfl⟩
    | false =>
      by_cases k1 : e1 = 0
      · subst k1
        rw [f2 rfl] at d1
        by_cases k2 : e3 = 0
        · subst k2
          rw [f3 rfl] at d2
          as_aux_lemma =>
            simp (disch := first | assumption | omega | (simp (disch := first | assumption | omega) only [flatA0, flatA1, flatA2, flatA3, flatA4, Nat.reduceAdd, Nat.reduceLT, Nat.reduceLeDiff, Nat.reduceEqDiff, Nat.reduceMul, ↓reduceIte, gf_nil, gf_levc, gf_zeroc]; done) | fail) only [stepA0, stepA1, stepA2, stepA3, stepA4, stepA5, stepA6, stepA7, stepA8, stepA9, ↓reduceIte, Nat.reduceLT, Nat.reduceEqDiff, Nat.reduceAdd, Nat.reduceLeDiff, g2, g3, g4, g5, a6, c1, c2, kNum, kMax2, d1, d2, gf_nil, gf_levc, gf_zeroc]
            exact ⟨_, _, rfl⟩
        · as_aux_lemma =>
            simp (disch := first | assumption | omega | (simp (disch := first | assumption | omega) only [flatA0, flatA1, flatA2, flatA3, flatA4, Nat.reduceAdd, Nat.reduceLT, Nat.reduceLeDiff, Nat.reduceEqDiff, Nat.reduceMul, ↓reduceIte, gf_nil, gf_levc, gf_zeroc]; done) | fail) only [stepA0, stepA1, stepA2, stepA3, stepA4, stepA5, stepA6, stepA7, stepA8, stepA9, ↓reduceIte, Nat.reduceLT, Nat.reduceEqDiff, Nat.reduceAdd, Nat.reduceLeDiff, g2, g3, g4, g5, a6, c1, c2, kNum, kMax2, d1, k2, gf_nil, gf_levc, gf_zeroc]
            exact ⟨_, _, rfl⟩
      · by_cases k2 : e3 = 0
        · subst k2
          rw [f3 rfl] at d2
          as_aux_lemma =>
            simp (disch := first | assumption | omega | (simp (disch := first | assumption | omega) only [flatA0, flatA1, flatA2, flatA3, flatA4, Nat.reduceAdd, Nat.reduceLT, Nat.reduceLeDiff, Nat.reduceEqDiff, Nat.reduceMul, ↓reduceIte, gf_nil, gf_levc, gf_zeroc]; done) | fail) only [stepA0, stepA1, stepA2, stepA3, stepA4, stepA5, stepA6, stepA7, stepA8, stepA9, ↓reduceIte, Nat.reduceLT, Nat.reduceEqDiff, Nat.reduceAdd, Nat.reduceLeDiff, g2, g3, g4, g5, a6, c1, c2, kNum, kMax2, d2, k1, gf_nil, gf_levc, gf_zeroc]
            exact ⟨_, _, rfl⟩
        · as_aux_lemma =>
            simp (disch := first | assumption | omega | (simp (disch := first | assumption | omega) only [flatA0, flatA1, flatA2, flatA3, flatA4, Nat.reduceAdd, Nat.reduceLT, Nat.reduceLeDiff, Nat.reduceEqDiff, Nat.reduceMul, ↓reduceIte, gf_nil, gf_levc, gf_zeroc]; done) | fail) only [stepA0, stepA1, stepA2, stepA3, stepA4, stepA5, stepA6, stepA7, stepA8, stepA9, ↓reduceIte, Nat.reduceLT, Nat.reduceEqDiff, Nat.reduceAdd, Nat.reduceLeDiff, g2, g3, g4, g5, a6, c1, c2, kNum, kMax2, k1, k2, gf_nil, gf_levc, gf_zeroc]
            exact ⟨_, _, rfl⟩
  · simp (disch := first | assumption | omega | (simp (disch := first | assumption | omega) only [flatA0, flatA1, flatA2, flatA3, flatA4, Nat.reduceAdd, Nat.reduceLT, Nat.reduceLeDiff, Nat.reduceEqDiff, Nat.reduceMul, ↓reduceIte]; done) | fail) only [stepA0, stepA1, stepA2, stepA3, stepA4, stepA5, stepA6, stepA7, stepA8, stepA9, ↓reduceIte, Nat.reduceLT, Nat.reduceEqDiff, Nat.reduceAdd, Nat.reduceLeDiff, g8]
    exact ⟨_, _, rfl⟩

set_option maxRecDepth 100000 in
theorem lv_lifted (os : Os) (started : os.Started) (H : Type) (enc : TypeId × Value → H) :
    ReturnsInHanded {} Go.Proofs.Try.checked os 16 .any (Rows.levelValuesSpec.pre6 enc Go.Proofs.Try.prog Go.Proofs.Try.f16 Rows.levelValuesRow.domain false) (Rows.levelValuesSpec.post enc Go.Proofs.Try.prog Go.Proofs.Try.f16 false true false false) := by
  refine law_lifted (C := Go.Proofs.Try.checked) (tb := 4) own started (by kernel_rfl) Go.Proofs.Try.func16
    (ChangeSpec.witness6 (enc := enc) (C := Go.Proofs.Try.checked) false ⟨#[], #[.agg #[.int .i64 0, .slice none 0 0], .agg #[.int .i64 0, .slice none 0 0], .int .i64 0, .slice none 0 0], []⟩ 8 (by kernel_rfl) (by kernel_rfl) (by kernel_rfl) (by kernel_rfl))
    mixed laidOut rowed_maps full_slices (by kernel_rfl) rfl (by kernel_rfl) rfl ?_ ?_
  · intro ds hl
    match ds, hl with
    | [_, _, _, _], _ => rfl
  · intro ds l hA
    have hA : ArgsAre Go.Proofs.Try.prog [43, 43, 3, 29] ds l := hA
    obtain ⟨x, y, z, o, f1, f2, f3, f4, rfl, h1, h2, h3, h4⟩ := args_four hA
    obtain ⟨l1, e1⟩ := lev_arg _ _ h1
    obtain ⟨l2, e2⟩ := lev_arg _ _ h2
    obtain ⟨k, e3, _⟩ := int_arg (k := .i64) (by kernel_rfl) h3
    obtain ⟨v, e4, _, _⟩ := slice_arg (k := 1) (enc := encN) (R := fun _ _ => True) Go.Proofs.Try.underlying29 (by kernel_rfl) h4 (fun g' y _ hy => by
      obtain ⟨i, e, _⟩ := int_arg Go.Proofs.Try.underlying3 hy
      exact ⟨i, e, trivial⟩)
    rw [e1, e2, e3, e4]
    exact lv_run l1.n l2.n k l1.vs l2.vs v

theorem LevelValues_holds : Rows.LevelValuesSaid :=
  OpenClaim.holds_of_wide 16 Go.Proofs.Try.f16 rfl rfl rfl rfl rfl rfl rfl ⟨rfl, rfl, rfl, rfl, rfl⟩ rfl rfl rfl rfl rfl (by kernel_rfl) Go.Proofs.Try.func16 (by kernel_rfl)
    (of_decide_eq_true (by kernel_rfl)) (by unfold Func.isWrapper; first | (rw [if_pos (by decide +kernel)]; kernel_rfl) | (rw [if_neg (by decide +kernel)]; exact ⟨rfl, rfl⟩))
    (fun os started H enc _ => lv_lifted os started H enc)
end Go.Proofs.Ytjagmfgjlfkmgaa
