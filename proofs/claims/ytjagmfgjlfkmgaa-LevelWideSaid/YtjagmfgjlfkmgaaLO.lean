/- LevelOrder: levels are ordered. No condition. -/
import Derived.Test.YtjagmfgjlfkmgaaLI
set_option linter.unusedSimpArgs false
set_option linter.unusedVariables false
namespace Go.Proofs.Ytjagmfgjlfkmgaa
open Go Go.ChangeShapes Go.WideShapes Go.ChangeAt Go.RowKit

/-- at most, read off the lists as they are -/
def LeqP (a b : Lev) : Prop := (a.n ≤ b.n ∨ ∃ q, q ∈ b.v ∧ a.n ≤ q.2) ∧ ∀ p, p ∈ a.v → ∃ q, q ∈ b.v ∧ p.1 = q.1 ∧ p.2 ≤ q.2
theorem LeqP.refl (a : Lev) : LeqP a a := ⟨.inl (Int.le_refl _), fun p hp => ⟨p, hp, rfl, Int.le_refl _⟩⟩
theorem LeqP.trans {a b c : Lev} (h1 : LeqP a b) (h2 : LeqP b c) : LeqP a c := by
  refine ⟨?_, fun p hp => ?_⟩
  · rcases h1.1 with h | ⟨q, hq, h⟩
    · rcases h2.1 with h' | ⟨q, hq, h'⟩
      · exact .inl (by omega)
      · exact .inr ⟨q, hq, by omega⟩
    · obtain ⟨r, hr, e1, e2⟩ := h2.2 q hq
      exact .inr ⟨r, hr, by omega⟩
  · obtain ⟨q, hq, e1, e2⟩ := h1.2 p hp
    obtain ⟨r, hr, e3, e4⟩ := h2.2 q hq
    exact ⟨r, hr, by omega, by omega⟩
theorem Nf.dom {vs l : List LV} (h : Nf vs l) : ∀ p, p ∈ vs → ∃ q, q ∈ l ∧ p.1 = q.1 ∧ p.2 ≤ q.2 := fun p hp => by
  obtain ⟨q, h1, h2, h3⟩ := h.cov p hp
  exact ⟨q, h1, h2.symm, h3⟩
theorem leq_norm1 (a : Lev) (hv : 0 ≤ a.n) : LeqP a a.norm := by
  refine ⟨?_, (nfL_nf a.v).dom⟩
  by_cases hz : ∃ q, q ∈ a.norm.v ∧ a.n ≤ q.2
  · exact .inr hz
  · left
    show a.n ≤ zn a.n (nfL a.v)
    unfold zn
    rw [if_neg]
    · exact Int.le_refl _
    · intro h
      obtain ⟨q, hq, h⟩ := List.any_eq_true.1 h
      exact hz ⟨q, hq, of_decide_eq_true h⟩
theorem leq_norm2 (a : Lev) (hv : 0 ≤ a.n) : LeqP a.norm a := by
  refine ⟨.inl ?_, fun p hp => ⟨p, (nfL_nf a.v).sub p hp, rfl, Int.le_refl _⟩⟩
  show zn a.n (nfL a.v) ≤ a.n
  unfold zn
  split <;> omega
theorem zn_pos {n : Int} {v : List LV} (h : 0 ≤ n) : 0 ≤ zn n v := by unfold zn; split <;> omega
theorem leq_iff {a b : Lev} (ha : a.right = true) (hb : b.right = true) : Lev.leq a b = true ↔ LeqP a b := by
  unfold Lev.leq
  rw [ha, hb, Bool.true_and, Bool.true_and]
  have h1 := (right_iff.1 ha).1.1
  have h2 := (right_iff.1 hb).1.1
  constructor
  · intro h
    exact ((leq_norm1 a h1).trans (leqN_iff.1 h)).trans (leq_norm2 b h2)
  · intro h
    exact leqN_iff.2 (((leq_norm2 a h1).trans h).trans (leq_norm1 b h2))
theorem leq_join1 {a b : Lev} (ha : Srt a.v) (hb : Srt b.v) : LeqP a (a.join b) := by
  refine ⟨.inl (Int.le_max_left _ _), fun p hp => ?_⟩
  exact (merge_nf ha hb).dom p (List.mem_append_left _ hp)
theorem leq_join2 {a b : Lev} (ha : Srt a.v) (hb : Srt b.v) : LeqP b (a.join b) := by
  refine ⟨.inl (Int.le_max_right _ _), fun p hp => ?_⟩
  exact (merge_nf ha hb).dom p (List.mem_append_right _ hp)
theorem join_leq {a b c : Lev} (ha : Srt a.v) (hb : Srt b.v) (h1 : LeqP a c) (h2 : LeqP b c) : LeqP (a.join b) c := by
  refine ⟨?_, fun p hp => ?_⟩
  · rcases Int.le_total a.n b.n with h | h
    · have : (a.join b).n = b.n := Int.max_eq_right h
      rw [this]; exact h2.1
    · have : (a.join b).n = a.n := Int.max_eq_left h
      rw [this]; exact h1.1
  · rcases List.mem_append.1 ((merge_nf ha hb).sub p hp) with hp | hp
    · exact h1.2 p hp
    · exact h2.2 p hp
theorem leq_top {a b : Lev} (h : LeqP a b) : topL a.n a.v ≤ topL b.n b.v := by
  have : ∀ x, x ≤ topL a.n a.v → x ≤ topL b.n b.v := by
    intro x hx
    rw [topL_le] at hx ⊢
    rcases hx with hx | ⟨p, hp, hx⟩
    · rcases h.1 with h' | ⟨q, hq, h'⟩
      · exact .inl (by omega)
      · exact .inr ⟨q, hq, by omega⟩
    · obtain ⟨q, hq, _, e⟩ := h.2 p hp
      exact .inr ⟨q, hq, by omega⟩
  exact this _ (Int.le_refl _)
theorem more_top (a : Lev) : topL a.n a.v + 1 ≤ topL (a.more 1).n (a.more 1).v := by
  have h := (topL_le a.v a.n).1 (Int.le_refl (topL a.n a.v))
  rw [topL_le]
  rcases h with h | ⟨q, hq, h⟩
  · left; show _ ≤ a.n + 1; omega
  · right; exact ⟨addV 1 q, List.mem_map.2 ⟨q, hq, rfl⟩, by show _ ≤ q.2 + 1; omega⟩
theorem leq_more (a : Lev) : LeqP a (a.more 1) := by
  refine ⟨.inl (by show a.n ≤ a.n + 1; omega), fun p hp => ⟨addV 1 p, List.mem_map.2 ⟨p, hp, rfl⟩, rfl, by show p.2 ≤ p.2 + 1; omega⟩⟩

theorem told_right {l : Lev} (h : l.told.2 = 0) : l.told.1 = l.norm ∧ l.norm.right = true := by
  unfold Lev.told at h ⊢
  split at h
  · rename_i hr; rw [if_pos hr]; exact ⟨rfl, hr⟩
  · exact absurd h (by decide)

section
variable {a b c : Lev}
theorem or_self' (ha : a.right = true) : Lev.leq a a = true := (leq_iff ha ha).2 (LeqP.refl a)
theorem or_max (ha : a.right = true) (hb : b.right = true) (h : (a.max2 b).2 = 0) : Lev.leq a (a.max2 b).1 = true ∧ Lev.leq b (a.max2 b).1 = true ∧ Lev.same (a.max2 b).1 b = Lev.leq a b := by
  have e : a.max2 b = (a.norm.join b.norm).told := by unfold Lev.max2; rw [if_pos ha, if_pos hb]
  rw [e] at h ⊢
  obtain ⟨e1, hr⟩ := told_right h
  rw [e1]
  have ha0 := (right_iff.1 ha).1.1
  have hb0 := (right_iff.1 hb).1.1
  have j0 : 0 ≤ (a.norm.join b.norm).n := Int.le_trans (zn_pos ha0 : 0 ≤ a.norm.n) (Int.le_max_left _ _)
  have sa : Srt a.norm.v := (nfL_nf a.v).srt
  have sb : Srt b.norm.v := (nfL_nf b.v).srt
  have l1 : LeqP a (a.norm.join b.norm).norm := ((leq_norm1 a ha0).trans (leq_join1 sa sb)).trans (leq_norm1 _ j0)
  have l2 : LeqP b (a.norm.join b.norm).norm := ((leq_norm1 b hb0).trans (leq_join2 sa sb)).trans (leq_norm1 _ j0)
  refine ⟨(leq_iff ha hr).2 l1, (leq_iff hb hr).2 l2, ?_⟩
  rw [← leq_both, (leq_iff hb hr).2 l2, Bool.and_true, Bool.eq_iff_iff, leq_iff hr hb, leq_iff ha hb]
  constructor
  · exact fun h => l1.trans h
  · intro h
    exact (leq_norm2 _ j0).trans (join_leq sa sb ((leq_norm2 a ha0).trans h) (leq_norm2 b hb0))
theorem or_suc (ha : a.right = true) (h : (a.suc 1).2 = 0) : Lev.leq a (a.suc 1).1 = true ∧ Lev.leq (a.suc 1).1 a = false := by
  have e : a.suc 1 = (a.norm.more 1).told := by unfold Lev.suc; rw [if_pos ha, if_neg (by decide), if_neg (by decide)]
  rw [e] at h ⊢
  obtain ⟨e1, hr⟩ := told_right h
  rw [e1]
  have ha0 := (right_iff.1 ha).1.1
  have n0 : 0 ≤ a.norm.n := zn_pos ha0
  have j0 : 0 ≤ (a.norm.more 1).n := by show 0 ≤ a.norm.n + 1; omega
  refine ⟨(leq_iff ha hr).2 (((leq_norm1 a ha0).trans (leq_more _)).trans (leq_norm1 _ j0)), ?_⟩
  rw [Bool.eq_false_iff]
  intro h'
  have h2 := (leq_iff hr ha).1 h'
  have h3 := leq_top (((leq_norm1 _ j0).trans h2).trans (leq_norm1 a ha0))
  have h4 := more_top a.norm
  omega
theorem or_trans (ha : a.right = true) (hb : b.right = true) (hc : c.right = true) (h1 : Lev.leq a b = true) (h2 : Lev.leq b c = true) : Lev.leq a c = true :=
  (leq_iff ha hc).2 (((leq_iff ha hb).1 h1).trans ((leq_iff hb hc).1 h2))
end

theorem nrm_size (l : Lev) : l.nrm.1.v.length ≤ 64 := by
  by_cases h : l.right = true
  · rw [nrm_right h]; exact (right_iff.1 (right_norm h)).2.1
  · rw [nrm_wrong h]; exact Nat.zero_le _
theorem kRNorm {m : Nat} {h : Hps} {N : Int} {s : Sl LV} (hs : s.el.length ≤ 200) (hg : GF m h) : callFn (LX (cF Go.Proofs.Try.prog)) m h [(D.agg [.int .i64 (N), slD 2 encV (s)])] (cF Go.Proofs.Try.prog 37) = .ok (D.tup [.agg [.int .i64 (Lev.nrm ⟨N, s.el⟩).1.n, slD 2 encV (Sl.app (Lev.nrm ⟨N, s.el⟩).1.v)], .int .i64 (Lev.nrm ⟨N, s.el⟩).2]) m h := refNorm m h hg.good N _ _ _ (svV s) (by omega)

set_option maxHeartbeats 8000000 in
set_option maxRecDepth 8000 in
theorem lo_run (N N' N'' : Int) (s s' s'' : Sl LV) : ∃ n' h', callFn (LX (cF Go.Proofs.Try.prog)) 0 [] [(D.agg [.int .i64 (N), slD 2 encV (s)]), (D.agg [.int .i64 (N'), slD 2 encV (s')]), (D.agg [.int .i64 (N''), slD 2 encV (s'')])] ((cF Go.Proofs.Try.prog) 15) = .ok (.bool true) n' h' := by
  rw [f15_eq]; unfold c15; rw [callFn_eq (by rfl)]
  by_cases hs : 200 < s.el.length
  · simp (disch := first | assumption | omega | (simp (disch := first | assumption | omega) only [flatA0, flatA1, flatA2, flatA3, flatA4, Nat.reduceAdd, Nat.reduceLT, Nat.reduceLeDiff, Nat.reduceEqDiff, Nat.reduceMul, ↓reduceIte, gf_nil, gf_lev, gf_zero, and_self, true_and, and_true]; done) | fail) only [stepA0, stepA1, stepA2, stepA3, stepA4, stepA5, stepA6, stepA7, stepA8, stepA9, ↓reduceIte, Nat.reduceLT, Nat.reduceEqDiff, Nat.reduceAdd, Nat.reduceLeDiff, kAlive, kBig, hs, decide_true, gf_nil, gf_lev, gf_zero, and_self, true_and, and_true]
    exact ⟨_, _, rfl⟩
  by_cases hs' : 200 < s'.el.length
  · simp (disch := first | assumption | omega | (simp (disch := first | assumption | omega) only [flatA0, flatA1, flatA2, flatA3, flatA4, Nat.reduceAdd, Nat.reduceLT, Nat.reduceLeDiff, Nat.reduceEqDiff, Nat.reduceMul, ↓reduceIte, gf_nil, gf_lev, gf_zero, and_self, true_and, and_true]; done) | fail) only [stepA0, stepA1, stepA2, stepA3, stepA4, stepA5, stepA6, stepA7, stepA8, stepA9, ↓reduceIte, Nat.reduceLT, Nat.reduceEqDiff, Nat.reduceAdd, Nat.reduceLeDiff, kAlive, kBig, hs, hs', decide_true, decide_false, gf_nil, gf_lev, gf_zero, and_self, true_and, and_true]
    exact ⟨_, _, rfl⟩
  by_cases hs'' : 200 < s''.el.length
  · simp (disch := first | assumption | omega | (simp (disch := first | assumption | omega) only [flatA0, flatA1, flatA2, flatA3, flatA4, Nat.reduceAdd, Nat.reduceLT, Nat.reduceLeDiff, Nat.reduceEqDiff, Nat.reduceMul, ↓reduceIte, gf_nil, gf_lev, gf_zero, and_self, true_and, and_true]; done) | fail) only [stepA0, stepA1, stepA2, stepA3, stepA4, stepA5, stepA6, stepA7, stepA8, stepA9, ↓reduceIte, Nat.reduceLT, Nat.reduceEqDiff, Nat.reduceAdd, Nat.reduceLeDiff, kAlive, kBig, hs, hs', hs'', decide_true, decide_false, gf_nil, gf_lev, gf_zero, and_self, true_and, and_true]
    exact ⟨_, _, rfl⟩
  have hs1 : s.el.length ≤ 200 := by omega
  have hs2 : s'.el.length ≤ 200 := by omega
  have hs3 : s''.el.length ≤ 200 := by omega
  have a1 : ∀ m h, GF m h → _ := fun m h hg => kRNorm (m := m) (h := h) (N := N) hs1 hg
  have a2 : ∀ m h, GF m h → _ := fun m h hg => kRNorm (m := m) (h := h) (N := N') hs2 hg
  have a3 : ∀ m h, GF m h → _ := fun m h hg => kRNorm (m := m) (h := h) (N := N'') hs3 hg
  by_cases hr : Lev.right ⟨N, s.el⟩ = true ∧ Lev.right ⟨N', s'.el⟩ = true ∧ Lev.right ⟨N'', s''.el⟩ = true
  · obtain ⟨r1, r2, r3⟩ := hr
    rw [nrm_right r1] at a1
    rw [nrm_right r2] at a2
    rw [nrm_right r3] at a3
    generalize Lev.norm ⟨N, s.el⟩ = M1 at a1
    generalize Lev.norm ⟨N', s'.el⟩ = M2 at a2
    generalize Lev.norm ⟨N'', s''.el⟩ = M3 at a3
    simp only at a1 a2 a3
    have b1 : ∀ m h, GF m h → _ := fun m h hg => kLeq (m := m) (h := h) (N := N) (N' := N) hs1 hs1 hg
    have b2 : ∀ m h, GF m h → _ := fun m h hg => kLeq (m := m) (h := h) (N := N) (N' := N') hs1 hs2 hg
    have b3 : ∀ m h, GF m h → _ := fun m h hg => kLeq (m := m) (h := h) (N := N') (N' := N'') hs2 hs3 hg
    have b4 : ∀ m h, GF m h → _ := fun m h hg => kLeq (m := m) (h := h) (N := N) (N' := N'') hs1 hs3 hg
    have c1 : ∀ m h, GF m h → _ := fun m h hg => kMax (m := m) (h := h) (N := N) (N' := N') hs1 hs2 hg
    have c2 : ∀ m h, GF m h → _ := fun m h hg => kSuc (m := m) (h := h) (N := N) (k := 1) hs1 hg
    have z1 := suc_size ⟨N, s.el⟩ 1
    have z2 := max_size ⟨N, s.el⟩ ⟨N', s'.el⟩
    have f1 := or_max r1 r2
    have f2 := or_suc r1
    have f3 := fun h1 h2 => or_trans r1 r2 r3 h1 h2
    rw [or_self' r1] at b1
    generalize Lev.leq ⟨N, s.el⟩ ⟨N', s'.el⟩ = A1 at b2 f1 f3
    generalize Lev.leq ⟨N', s'.el⟩ ⟨N'', s''.el⟩ = A2 at b3 f3
    generalize Lev.leq ⟨N, s.el⟩ ⟨N'', s''.el⟩ = A3 at b4 f3
    generalize Lev.max2 ⟨N, s.el⟩ ⟨N', s'.el⟩ = R1 at c1 z2 f1
    generalize Lev.suc ⟨N, s.el⟩ 1 = R2 at c2 z1 f2
    obtain ⟨⟨n1, v1⟩, e1⟩ := R1
    obtain ⟨⟨n2, v2⟩, e2⟩ := R2
    have d1 : ∀ m h, GF m h → _ := fun m h hg => kLeq (m := m) (h := h) (N := N) (N' := n1) (s' := Sl.app v1) hs1 (sz_app (Nat.le_trans z2 (by decide))) hg
    have d2 : ∀ m h, GF m h → _ := fun m h hg => kLeq (m := m) (h := h) (N := N') (N' := n1) (s' := Sl.app v1) hs2 (sz_app (Nat.le_trans z2 (by decide))) hg
    have d3 : ∀ m h, GF m h → _ := fun m h hg => kLeq (m := m) (h := h) (N := N) (N' := n2) (s' := Sl.app v2) hs1 (sz_app (Nat.le_trans z1 (by decide))) hg
    have d4 : ∀ m h, GF m h → _ := fun m h hg => kLeq (m := m) (h := h) (N := n2) (N' := N) (s := Sl.app v2) (sz_app (Nat.le_trans z1 (by decide))) hs1 hg
    have d5 : ∀ m h, GF m h → _ := fun m h hg => kSame (m := m) (h := h) (N := n1) (N' := N') (s := Sl.app v1) (sz_app (Nat.le_trans z2 (by decide))) hs2 hg
    replace f1 : e1 = 0 → Lev.leq ⟨N, s.el⟩ ⟨n1, (Sl.app v1).el⟩ = true ∧ Lev.leq ⟨N', s'.el⟩ ⟨n1, (Sl.app v1).el⟩ = true ∧ Lev.same ⟨n1, (Sl.app v1).el⟩ ⟨N', s'.el⟩ = A1 := f1
    replace f2 : e2 = 0 → Lev.leq ⟨N, s.el⟩ ⟨n2, (Sl.app v2).el⟩ = true ∧ Lev.leq ⟨n2, (Sl.app v2).el⟩ ⟨N, s.el⟩ = false := f2
    simp (disch := first | assumption | omega | (simp (disch := first | assumption | omega) only [flatA0, flatA1, flatA2, flatA3, flatA4, Nat.reduceAdd, Nat.reduceLT, Nat.reduceLeDiff, Nat.reduceEqDiff, Nat.reduceMul, ↓reduceIte, gf_nil, gf_lev, gf_zero, and_self, true_and, and_true]; done) | fail) only [stepA0, stepA1, stepA2, stepA3, stepA4, stepA5, stepA6, stepA7, stepA8, stepA9, ↓reduceIte, Nat.reduceLT, Nat.reduceEqDiff, Nat.reduceAdd, Nat.reduceLeDiff, kAlive, kBig, hs, hs', hs'', decide_true, decide_false, a1, a2, a3, c1, c2, gf_nil, gf_lev, gf_zero, and_self, true_and, and_true]
    by_cases k1 : e1 = 0
    · subst k1
      obtain ⟨u1, u2, u3⟩ := f1 rfl
      rw [u1] at d1; rw [u2] at d2; rw [u3] at d5
      by_cases k2 : e2 = 0
      · subst k2
        obtain ⟨u4, u5⟩ := f2 rfl
        rw [u4] at d3; rw [u5] at d4
        simp (disch := first | assumption | omega | (simp (disch := first | assumption | omega) only [flatA0, flatA1, flatA2, flatA3, flatA4, Nat.reduceAdd, Nat.reduceLT, Nat.reduceLeDiff, Nat.reduceEqDiff, Nat.reduceMul, ↓reduceIte, gf_nil, gf_lev, gf_zero, and_self, true_and, and_true]; done) | fail) only [stepA0, stepA1, stepA2, stepA3, stepA4, stepA5, stepA6, stepA7, stepA8, stepA9, ↓reduceIte, Nat.reduceLT, Nat.reduceEqDiff, Nat.reduceAdd, Nat.reduceLeDiff, kNum, b1, d1, d2, d3, d4, decide_true, decide_false, gf_nil, gf_lev, gf_zero, and_self, true_and, and_true]
        cases A1 with
        | false =>
          simp (disch := first | assumption | omega | (simp (disch := first | assumption | omega) only [flatA0, flatA1, flatA2, flatA3, flatA4, Nat.reduceAdd, Nat.reduceLT, Nat.reduceLeDiff, Nat.reduceEqDiff, Nat.reduceMul, ↓reduceIte, gf_nil, gf_lev, gf_zero, and_self, true_and, and_true]; done) | fail) only [stepA0, stepA1, stepA2, stepA3, stepA4, stepA5, stepA6, stepA7, stepA8, stepA9, ↓reduceIte, Nat.reduceLT, Nat.reduceEqDiff, Nat.reduceAdd, Nat.reduceLeDiff, kNum, b2, b3, d5, decide_true, decide_false, gf_nil, gf_lev, gf_zero, and_self, true_and, and_true]
          exact ⟨_, _, rfl⟩
        | true =>
          cases A2 with
          | false =>
            simp (disch := first | assumption | omega | (simp (disch := first | assumption | omega) only [flatA0, flatA1, flatA2, flatA3, flatA4, Nat.reduceAdd, Nat.reduceLT, Nat.reduceLeDiff, Nat.reduceEqDiff, Nat.reduceMul, ↓reduceIte, gf_nil, gf_lev, gf_zero, and_self, true_and, and_true]; done) | fail) only [stepA0, stepA1, stepA2, stepA3, stepA4, stepA5, stepA6, stepA7, stepA8, stepA9, ↓reduceIte, Nat.reduceLT, Nat.reduceEqDiff, Nat.reduceAdd, Nat.reduceLeDiff, kNum, b2, b3, d5, decide_true, decide_false, gf_nil, gf_lev, gf_zero, and_self, true_and, and_true]
            exact ⟨_, _, rfl⟩
          | true =>
            rw [f3 rfl rfl] at b4
            simp (disch := first | assumption | omega | (simp (disch := first | assumption | omega) only [flatA0, flatA1, flatA2, flatA3, flatA4, Nat.reduceAdd, Nat.reduceLT, Nat.reduceLeDiff, Nat.reduceEqDiff, Nat.reduceMul, ↓reduceIte, gf_nil, gf_lev, gf_zero, and_self, true_and, and_true]; done) | fail) only [stepA0, stepA1, stepA2, stepA3, stepA4, stepA5, stepA6, stepA7, stepA8, stepA9, ↓reduceIte, Nat.reduceLT, Nat.reduceEqDiff, Nat.reduceAdd, Nat.reduceLeDiff, kNum, b2, b3, b4, d5, decide_true, decide_false, gf_nil, gf_lev, gf_zero, and_self, true_and, and_true]
            exact ⟨_, _, rfl⟩
      · simp (disch := first | assumption | omega | (simp (disch := first | assumption | omega) only [flatA0, flatA1, flatA2, flatA3, flatA4, Nat.reduceAdd, Nat.reduceLT, Nat.reduceLeDiff, Nat.reduceEqDiff, Nat.reduceMul, ↓reduceIte, gf_nil, gf_lev, gf_zero, and_self, true_and, and_true]; done) | fail) only [stepA0, stepA1, stepA2, stepA3, stepA4, stepA5, stepA6, stepA7, stepA8, stepA9, ↓reduceIte, Nat.reduceLT, Nat.reduceEqDiff, Nat.reduceAdd, Nat.reduceLeDiff, kNum, b1, d1, d2, k2, decide_true, decide_false, gf_nil, gf_lev, gf_zero, and_self, true_and, and_true]
        cases A1 with
        | false =>
          simp (disch := first | assumption | omega | (simp (disch := first | assumption | omega) only [flatA0, flatA1, flatA2, flatA3, flatA4, Nat.reduceAdd, Nat.reduceLT, Nat.reduceLeDiff, Nat.reduceEqDiff, Nat.reduceMul, ↓reduceIte, gf_nil, gf_lev, gf_zero, and_self, true_and, and_true]; done) | fail) only [stepA0, stepA1, stepA2, stepA3, stepA4, stepA5, stepA6, stepA7, stepA8, stepA9, ↓reduceIte, Nat.reduceLT, Nat.reduceEqDiff, Nat.reduceAdd, Nat.reduceLeDiff, kNum, b2, b3, d5, decide_true, decide_false, gf_nil, gf_lev, gf_zero, and_self, true_and, and_true]
          exact ⟨_, _, rfl⟩
        | true =>
          cases A2 with
          | false =>
            simp (disch := first | assumption | omega | (simp (disch := first | assumption | omega) only [flatA0, flatA1, flatA2, flatA3, flatA4, Nat.reduceAdd, Nat.reduceLT, Nat.reduceLeDiff, Nat.reduceEqDiff, Nat.reduceMul, ↓reduceIte, gf_nil, gf_lev, gf_zero, and_self, true_and, and_true]; done) | fail) only [stepA0, stepA1, stepA2, stepA3, stepA4, stepA5, stepA6, stepA7, stepA8, stepA9, ↓reduceIte, Nat.reduceLT, Nat.reduceEqDiff, Nat.reduceAdd, Nat.reduceLeDiff, kNum, b2, b3, d5, decide_true, decide_false, gf_nil, gf_lev, gf_zero, and_self, true_and, and_true]
            exact ⟨_, _, rfl⟩
          | true =>
            rw [f3 rfl rfl] at b4
            simp (disch := first | assumption | omega | (simp (disch := first | assumption | omega) only [flatA0, flatA1, flatA2, flatA3, flatA4, Nat.reduceAdd, Nat.reduceLT, Nat.reduceLeDiff, Nat.reduceEqDiff, Nat.reduceMul, ↓reduceIte, gf_nil, gf_lev, gf_zero, and_self, true_and, and_true]; done) | fail) only [stepA0, stepA1, stepA2, stepA3, stepA4, stepA5, stepA6, stepA7, stepA8, stepA9, ↓reduceIte, Nat.reduceLT, Nat.reduceEqDiff, Nat.reduceAdd, Nat.reduceLeDiff, kNum, b2, b3, b4, d5, decide_true, decide_false, gf_nil, gf_lev, gf_zero, and_self, true_and, and_true]
            exact ⟨_, _, rfl⟩
    · by_cases k2 : e2 = 0
      · subst k2
        obtain ⟨u4, u5⟩ := f2 rfl
        rw [u4] at d3; rw [u5] at d4
        simp (disch := first | assumption | omega | (simp (disch := first | assumption | omega) only [flatA0, flatA1, flatA2, flatA3, flatA4, Nat.reduceAdd, Nat.reduceLT, Nat.reduceLeDiff, Nat.reduceEqDiff, Nat.reduceMul, ↓reduceIte, gf_nil, gf_lev, gf_zero, and_self, true_and, and_true]; done) | fail) only [stepA0, stepA1, stepA2, stepA3, stepA4, stepA5, stepA6, stepA7, stepA8, stepA9, ↓reduceIte, Nat.reduceLT, Nat.reduceEqDiff, Nat.reduceAdd, Nat.reduceLeDiff, kNum, b1, d3, d4, k1, decide_true, decide_false, gf_nil, gf_lev, gf_zero, and_self, true_and, and_true]
        cases A1 with
        | false =>
          simp (disch := first | assumption | omega | (simp (disch := first | assumption | omega) only [flatA0, flatA1, flatA2, flatA3, flatA4, Nat.reduceAdd, Nat.reduceLT, Nat.reduceLeDiff, Nat.reduceEqDiff, Nat.reduceMul, ↓reduceIte, gf_nil, gf_lev, gf_zero, and_self, true_and, and_true]; done) | fail) only [stepA0, stepA1, stepA2, stepA3, stepA4, stepA5, stepA6, stepA7, stepA8, stepA9, ↓reduceIte, Nat.reduceLT, Nat.reduceEqDiff, Nat.reduceAdd, Nat.reduceLeDiff, kNum, b2, b3, k1, decide_true, decide_false, gf_nil, gf_lev, gf_zero, and_self, true_and, and_true]
          exact ⟨_, _, rfl⟩
        | true =>
          cases A2 with
          | false =>
            simp (disch := first | assumption | omega | (simp (disch := first | assumption | omega) only [flatA0, flatA1, flatA2, flatA3, flatA4, Nat.reduceAdd, Nat.reduceLT, Nat.reduceLeDiff, Nat.reduceEqDiff, Nat.reduceMul, ↓reduceIte, gf_nil, gf_lev, gf_zero, and_self, true_and, and_true]; done) | fail) only [stepA0, stepA1, stepA2, stepA3, stepA4, stepA5, stepA6, stepA7, stepA8, stepA9, ↓reduceIte, Nat.reduceLT, Nat.reduceEqDiff, Nat.reduceAdd, Nat.reduceLeDiff, kNum, b2, b3, k1, decide_true, decide_false, gf_nil, gf_lev, gf_zero, and_self, true_and, and_true]
            exact ⟨_, _, rfl⟩
          | true =>
            rw [f3 rfl rfl] at b4
            simp (disch := first | assumption | omega | (simp (disch := first | assumption | omega) only [flatA0, flatA1, flatA2, flatA3, flatA4, Nat.reduceAdd, Nat.reduceLT, Nat.reduceLeDiff, Nat.reduceEqDiff, Nat.reduceMul, ↓reduceIte, gf_nil, gf_lev, gf_zero, and_self, true_and, and_true]; done) | fail) only [stepA0, stepA1, stepA2, stepA3, stepA4, stepA5, stepA6, stepA7, stepA8, stepA9, ↓reduceIte, Nat.reduceLT, Nat.reduceEqDiff, Nat.reduceAdd, Nat.reduceLeDiff, kNum, b2, b3, b4, k1, decide_true, decide_false, gf_nil, gf_lev, gf_zero, and_self, true_and, and_true]
            exact ⟨_, _, rfl⟩
      · simp (disch := first | assumption | omega | (simp (disch := first | assumption | omega) only [flatA0, flatA1, flatA2, flatA3, flatA4, Nat.reduceAdd, Nat.reduceLT, Nat.reduceLeDiff, Nat.reduceEqDiff, Nat.reduceMul, ↓reduceIte, gf_nil, gf_lev, gf_zero, and_self, true_and, and_true]; done) | fail) only [stepA0, stepA1, stepA2, stepA3, stepA4, stepA5, stepA6, stepA7, stepA8, stepA9, ↓reduceIte, Nat.reduceLT, Nat.reduceEqDiff, Nat.reduceAdd, Nat.reduceLeDiff, kNum, b1, k1, k2, decide_true, decide_false, gf_nil, gf_lev, gf_zero, and_self, true_and, and_true]
        cases A1 with
        | false =>
          simp (disch := first | assumption | omega | (simp (disch := first | assumption | omega) only [flatA0, flatA1, flatA2, flatA3, flatA4, Nat.reduceAdd, Nat.reduceLT, Nat.reduceLeDiff, Nat.reduceEqDiff, Nat.reduceMul, ↓reduceIte, gf_nil, gf_lev, gf_zero, and_self, true_and, and_true]; done) | fail) only [stepA0, stepA1, stepA2, stepA3, stepA4, stepA5, stepA6, stepA7, stepA8, stepA9, ↓reduceIte, Nat.reduceLT, Nat.reduceEqDiff, Nat.reduceAdd, Nat.reduceLeDiff, kNum, b2, b3, k1, decide_true, decide_false, gf_nil, gf_lev, gf_zero, and_self, true_and, and_true]
          exact ⟨_, _, rfl⟩
        | true =>
          cases A2 with
          | false =>
            simp (disch := first | assumption | omega | (simp (disch := first | assumption | omega) only [flatA0, flatA1, flatA2, flatA3, flatA4, Nat.reduceAdd, Nat.reduceLT, Nat.reduceLeDiff, Nat.reduceEqDiff, Nat.reduceMul, ↓reduceIte, gf_nil, gf_lev, gf_zero, and_self, true_and, and_true]; done) | fail) only [stepA0, stepA1, stepA2, stepA3, stepA4, stepA5, stepA6, stepA7, stepA8, stepA9, ↓reduceIte, Nat.reduceLT, Nat.reduceEqDiff, Nat.reduceAdd, Nat.reduceLeDiff, kNum, b2, b3, k1, decide_true, decide_false, gf_nil, gf_lev, gf_zero, and_self, true_and, and_true]
            exact ⟨_, _, rfl⟩
          | true =>
            rw [f3 rfl rfl] at b4
            simp (disch := first | assumption | omega | (simp (disch := first | assumption | omega) only [flatA0, flatA1, flatA2, flatA3, flatA4, Nat.reduceAdd, Nat.reduceLT, Nat.reduceLeDiff, Nat.reduceEqDiff, Nat.reduceMul, ↓reduceIte, gf_nil, gf_lev, gf_zero, and_self, true_and, and_true]; done) | fail) only [stepA0, stepA1, stepA2, stepA3, stepA4, stepA5, stepA6, stepA7, stepA8, stepA9, ↓reduceIte, Nat.reduceLT, Nat.reduceEqDiff, Nat.reduceAdd, Nat.reduceLeDiff, kNum, b2, b3, b4, k1, decide_true, decide_false, gf_nil, gf_lev, gf_zero, and_self, true_and, and_true]
            exact ⟨_, _, rfl⟩
  · have hsum : (Lev.nrm ⟨N, s.el⟩).2 + (Lev.nrm ⟨N', s'.el⟩).2 + (Lev.nrm ⟨N'', s''.el⟩).2 ≠ 0 ∧ ((Lev.nrm ⟨N, s.el⟩).2 = 0 ∨ (Lev.nrm ⟨N, s.el⟩).2 = 13) ∧ ((Lev.nrm ⟨N', s'.el⟩).2 = 0 ∨ (Lev.nrm ⟨N', s'.el⟩).2 = 13) ∧ ((Lev.nrm ⟨N'', s''.el⟩).2 = 0 ∨ (Lev.nrm ⟨N'', s''.el⟩).2 = 13) := by
      have h3 : ∀ l : Lev, (l.nrm.2 = 0 ∧ l.right = true) ∨ (l.nrm.2 = 13 ∧ l.right = false) := by
        intro l
        cases hl : l.right
        · exact .inr ⟨by rw [nrm_wrong (by rw [hl]; decide)], rfl⟩
        · exact .inl ⟨by rw [nrm_right hl], rfl⟩
      rcases h3 ⟨N, s.el⟩ with ⟨q1, p1⟩ | ⟨q1, p1⟩ <;> rcases h3 ⟨N', s'.el⟩ with ⟨q2, p2⟩ | ⟨q2, p2⟩ <;> rcases h3 ⟨N'', s''.el⟩ with ⟨q3, p3⟩ | ⟨q3, p3⟩ <;> rw [q1, q2, q3] <;> first | decide | exact absurd ⟨p1, p2, p3⟩ hr
    generalize Lev.nrm ⟨N, s.el⟩ = R1 at a1 hsum
    generalize Lev.nrm ⟨N', s'.el⟩ = R2 at a2 hsum
    generalize Lev.nrm ⟨N'', s''.el⟩ = R3 at a3 hsum
    obtain ⟨⟨n1, v1⟩, e1⟩ := R1
    obtain ⟨⟨n2, v2⟩, e2⟩ := R2
    obtain ⟨⟨n3, v3⟩, e3⟩ := R3
    replace hsum : e1 + e2 + e3 ≠ 0 ∧ (e1 = 0 ∨ e1 = 13) ∧ (e2 = 0 ∨ e2 = 13) ∧ (e3 = 0 ∨ e3 = 13) := hsum
    obtain ⟨hsum, hq1, hq2, hq3⟩ := hsum
    simp only at a1 a2 a3
    simp (disch := first | assumption | omega | (simp (disch := first | assumption | omega) only [flatA0, flatA1, flatA2, flatA3, flatA4, Nat.reduceAdd, Nat.reduceLT, Nat.reduceLeDiff, Nat.reduceEqDiff, Nat.reduceMul, ↓reduceIte, gf_nil, gf_lev, gf_zero, and_self, true_and, and_true]; done) | fail) only [stepA0, stepA1, stepA2, stepA3, stepA4, stepA5, stepA6, stepA7, stepA8, stepA9, ↓reduceIte, Nat.reduceLT, Nat.reduceEqDiff, Nat.reduceAdd, Nat.reduceLeDiff, kAlive, kBig, hs, hs', hs'', decide_true, decide_false, a1, a2, a3, hsum, gf_nil, gf_lev, gf_zero, and_self, true_and, and_true]
    exact ⟨_, _, rfl⟩

set_option maxRecDepth 100000 in
theorem lo_lifted (os : Os) (started : os.Started) (H : Type) (enc : TypeId × Value → H) :
    ReturnsInHanded {} Go.Proofs.Try.checked os 15 .any (Rows.levelOrderSpec.pre6 enc Go.Proofs.Try.prog Go.Proofs.Try.f15 Rows.levelOrderRow.domain false) (Rows.levelOrderSpec.post enc Go.Proofs.Try.prog Go.Proofs.Try.f15 false true false false) := by
  refine law_lifted (C := Go.Proofs.Try.checked) (tb := 4) own started (by kernel_rfl) Go.Proofs.Try.func15
    (ChangeSpec.witness6 (enc := enc) (C := Go.Proofs.Try.checked) false ⟨#[], #[.agg #[.int .i64 0, .slice none 0 0], .agg #[.int .i64 0, .slice none 0 0], .agg #[.int .i64 0, .slice none 0 0]], []⟩ 8 (by kernel_rfl) (by kernel_rfl) (by kernel_rfl) (by kernel_rfl))
    mixed laidOut rowed_maps full_slices (by kernel_rfl) rfl (by kernel_rfl) rfl ?_ ?_
  · intro ds hl
    match ds, hl with
    | [_, _, _], _ => rfl
  · intro ds l hA
    have hA : ArgsAre Go.Proofs.Try.prog [43, 43, 43] ds l := hA
    obtain ⟨x, y, z, f1, f2, f3, rfl, h1, h2, h3⟩ := args_three hA
    obtain ⟨l1, e1⟩ := lev_arg _ _ h1
    obtain ⟨l2, e2⟩ := lev_arg _ _ h2
    obtain ⟨l3, e3⟩ := lev_arg _ _ h3
    rw [e1, e2, e3]
    exact lo_run l1.n l2.n l3.n l1.vs l2.vs l3.vs

theorem LevelOrder_holds : Rows.LevelOrderSaid :=
  OpenClaim.holds_of_wide 15 Go.Proofs.Try.f15 rfl rfl rfl rfl rfl rfl rfl ⟨rfl, rfl, rfl, rfl, rfl⟩ rfl rfl rfl rfl rfl (by kernel_rfl) Go.Proofs.Try.func15 (by kernel_rfl)
    (of_decide_eq_true (by kernel_rfl)) (by unfold Func.isWrapper; first | (rw [if_pos (by decide +kernel)]; kernel_rfl) | (rw [if_neg (by decide +kernel)]; exact ⟨rfl, rfl⟩))
    (fun os started H enc _ => lo_lifted os started H enc)
end Go.Proofs.Ytjagmfgjlfkmgaa
