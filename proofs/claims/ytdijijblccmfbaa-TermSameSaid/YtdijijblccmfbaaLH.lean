/- The reference's comparisons, and whether two levels are one. No condition. -/
import Derived.Test.YtdijijblccmfbaaLC
set_option linter.unusedSimpArgs false
set_option linter.unusedVariables false
namespace Go.Proofs.Ytdijijblccmfbaa
open Go

theorem zn_stop {N : Int} {v : List LV} {q : LV} (hq : q ∈ v) (h : zn N v ≤ q.2) : zn N v = 0 := by
  unfold zn at h ⊢
  split
  · rfl
  · rename_i hn
    rw [if_neg hn] at h
    exact absurd (List.any_eq_true.2 ⟨q, hq, decide_eq_true h⟩) hn
theorem leqN_iff {a b : Lev} : leqN a b = true ↔ (a.n ≤ b.n ∨ ∃ q, q ∈ b.v ∧ a.n ≤ q.2) ∧ ∀ p, p ∈ a.v → ∃ q, q ∈ b.v ∧ p.1 = q.1 ∧ p.2 ≤ q.2 := by
  unfold leqN
  simp
theorem srt_sub {l m : List LV} (hl : Srt l) (hm : Srt m) (h1 : ∀ p, p ∈ l → ∃ q, q ∈ m ∧ p.1 = q.1 ∧ p.2 ≤ q.2) (h2 : ∀ p, p ∈ m → ∃ q, q ∈ l ∧ p.1 = q.1 ∧ p.2 ≤ q.2) : ∀ p, p ∈ l → p ∈ m := by
  intro p hp
  obtain ⟨q, hq, e1, e2⟩ := h1 p hp
  obtain ⟨r, hr, e3, e4⟩ := h2 q hq
  have := srt_one hl hp hr (e1.trans e3)
  subst this
  have : p = q := Prod.ext e1 (by omega)
  rw [this]; exact hq
theorem leqN_both {a b : Lev} (ha : 0 ≤ a.n) (hb : 0 ≤ b.n) : (leqN a.norm b.norm && leqN b.norm a.norm) = decide (a.norm.n = b.norm.n ∧ a.norm.v = b.norm.v) := by
  have z : ∀ {N : Int} {v : List LV}, 0 ≤ N → 0 ≤ zn N v := fun {N v} h => by unfold zn; split <;> omega
  have za : 0 ≤ a.norm.n := z ha
  have zb : 0 ≤ b.norm.n := z hb
  rw [Bool.eq_iff_iff, Bool.and_eq_true, decide_eq_true_iff, leqN_iff, leqN_iff]
  constructor
  · rintro ⟨⟨h1, h2⟩, h3, h4⟩
    have hv : a.norm.v = b.norm.v := srt_ext (nfL_nf a.v).srt (nfL_nf b.v).srt (fun p => ⟨srt_sub (nfL_nf a.v).srt (nfL_nf b.v).srt h2 h4 p, srt_sub (nfL_nf b.v).srt (nfL_nf a.v).srt h4 h2 p⟩)
    refine ⟨?_, hv⟩
    have le : ∀ {x y : Lev}, x.norm.v = y.norm.v → 0 ≤ y.norm.n → (x.norm.n ≤ y.norm.n ∨ ∃ q, q ∈ y.norm.v ∧ x.norm.n ≤ q.2) → x.norm.n ≤ y.norm.n := by
      intro x y e hy h
      rcases h with h | ⟨q, hq, h⟩
      · exact h
      · rw [← e] at hq
        have : x.norm.n = 0 := zn_stop hq h
        omega
    have := le hv zb h1
    have := le hv.symm za h3
    omega
  · rintro ⟨h1, h2⟩
    refine ⟨⟨.inl (by omega), fun p hp => ⟨p, h2 ▸ hp, rfl, Int.le_refl _⟩⟩, .inl (by omega), fun p hp => ⟨p, h2 ▸ hp, rfl, Int.le_refl _⟩⟩
/-- are both right, and one? -/
def Lev.same (a b : Lev) : Bool := a.right && b.right && decide (a.norm.n = b.norm.n ∧ a.norm.v = b.norm.v)
theorem leq_both (a b : Lev) : (Lev.leq a b && Lev.leq b a) = Lev.same a b := by
  unfold Lev.leq Lev.same
  cases ha : a.right
  · simp
  · cases hb : b.right
    · simp
    · simp only [Bool.true_and]
      exact leqN_both (right_iff.1 ha).1.1 (right_iff.1 hb).1.1

/-- the greatest number at which a level stands -/
def topL (N : Int) (l : List LV) : Int := l.foldl (fun m p => if m < p.2 then p.2 else m) N
theorem topL_snoc (N : Int) (l : List LV) (p : LV) : topL N (l ++ [p]) = if topL N l < p.2 then p.2 else topL N l := by unfold topL; rw [List.foldl_append]; rfl
theorem topL_le {x : Int} : ∀ (l : List LV) (N : Int), x ≤ topL N l ↔ x ≤ N ∨ ∃ q, q ∈ l ∧ x ≤ q.2
  | [], N => by simp [topL]
  | p :: t, N => by
    show x ≤ topL (if N < p.2 then p.2 else N) t ↔ _
    rw [topL_le t]
    constructor
    · rintro (h | ⟨q, hq, h⟩)
      · split at h
        · exact .inr ⟨p, List.mem_cons_self .., h⟩
        · exact .inl h
      · exact .inr ⟨q, List.mem_cons_of_mem _ hq, h⟩
    · rintro (h | ⟨q, hq, h⟩)
      · left; split <;> omega
      · rcases List.mem_cons.1 hq with rfl | hq
        · left; split <;> omega
        · exact .inr ⟨q, hq, h⟩
def has (l : List LV) (p : LV) : Bool := l.any fun q => decide (p.1 = q.1) && decide (p.2 ≤ q.2)
theorem has_snoc (l : List LV) (p v : LV) : has (l ++ [v]) p = (has l p || (decide (p.1 = v.1) && decide (p.2 ≤ v.2))) := by unfold has; rw [List.any_append]; simp
theorem leqN_top (a b : Lev) : leqN a b = (decide (a.n ≤ topL b.n b.v) && a.v.all fun p => has b.v p) := by
  unfold leqN
  congr 1
  rw [Bool.eq_iff_iff, decide_eq_true_iff, topL_le]
  simp

set_option maxHeartbeats 4000000 in
theorem refLeq (n : Nat) (h : Hps) (hg : ∀ k, n ≤ k → GoodAt k h) (N N' : Int) (d d' : D) (l l' : List LV) (ad ad' : Nat → D) (S : Sv 2 encV n h d l ad) (S' : Sv 2 encV n h d' l' ad') (hs : l.length < 1000000000000) (hs' : l'.length < 1000000000000) :
    callFn (LX (cF Go.Proofs.Try.prog)) n h [(D.agg [.int .i64 (N), d]), (D.agg [.int .i64 (N'), d'])] (cF Go.Proofs.Try.prog 125) = .ok (.bool (Lev.leq ⟨N, l⟩ ⟨N', l'⟩)) n h := by
  have hgn := hg n (Nat.le_refl _)
  have s3 := S.okD
  have s3' := S'.okD
  have H0 : Hp n h (n + 2) ((n + 1, (Ob.row 2 [.agg [.int .i64 (N'), d']])) :: (n, (Ob.row 2 [.agg [.int .i64 (N), d]])) :: h) := ((Hp.start hg).cons (r := n) (m := n + 1) (Nat.le_refl _) (by omega) (fun k hk => S.box2 (by omega))).cons (m := n + 2) (r := n + 1) (by omega) (by omega) (fun k hk => S'.box2 (by omega))
  have c0 : ∀ m, n + 2 ≤ m → callFn (LX (cF Go.Proofs.Try.prog)) m ((n + 1, (Ob.row 2 [.agg [.int .i64 (N'), d']])) :: (n, (Ob.row 2 [.agg [.int .i64 (N), d]])) :: h) [(D.agg [.int .i64 (N), d])] (cF Go.Proofs.Try.prog 122) = .ok (D.tup [.agg [.int .i64 (Lev.nrm ⟨N, l⟩).1.n, slD 2 encV (Sl.app (Lev.nrm ⟨N, l⟩).1.v)], .int .i64 (Lev.nrm ⟨N, l⟩).2]) m ((n + 1, (Ob.row 2 [.agg [.int .i64 (N'), d']])) :: (n, (Ob.row 2 [.agg [.int .i64 (N), d]])) :: h) := fun m hm => refNorm m _ (H0.good' hm) N d l ad (S.mono H0 hm) hs
  have HA : ∀ R : Lev × Int, Hp n h (n + 2) ((n + 1, (Ob.row 2 [.agg [.int .i64 (N'), d']])) :: (n, (Ob.row 2 [.agg [.int .i64 (R.1.n), slD 2 encV (Sl.app R.1.v)]])) :: h) := fun R => ((Hp.start hg).box (r := n) (m := n + 1) (Nat.le_refl _) (by omega) (flatL ⟨R.1.n, Sl.app R.1.v⟩)).cons (m := n + 2) (r := n + 1) (by omega) (by omega) (fun k hk => S'.box2 (by omega))
  have c1 : ∀ (R : Lev × Int) m, n + 2 ≤ m → callFn (LX (cF Go.Proofs.Try.prog)) m ((n + 1, (Ob.row 2 [.agg [.int .i64 (N'), d']])) :: (n, (Ob.row 2 [.agg [.int .i64 (R.1.n), slD 2 encV (Sl.app R.1.v)]])) :: h) [(D.agg [.int .i64 (N'), d'])] (cF Go.Proofs.Try.prog 122) = .ok (D.tup [.agg [.int .i64 (Lev.nrm ⟨N', l'⟩).1.n, slD 2 encV (Sl.app (Lev.nrm ⟨N', l'⟩).1.v)], .int .i64 (Lev.nrm ⟨N', l'⟩).2]) m ((n + 1, (Ob.row 2 [.agg [.int .i64 (N'), d']])) :: (n, (Ob.row 2 [.agg [.int .i64 (R.1.n), slD 2 encV (Sl.app R.1.v)]])) :: h) := fun R m hm => refNorm m _ ((HA R).good' hm) N' d' l' ad' (S'.mono (HA R) hm) hs'
  unfold Lev.leq
  by_cases hb : Lev.right ⟨N, l⟩ = true
  · rw [hb, Bool.true_and]
    rw [nrm_right hb] at c0
    have hr := right_iff.1 (right_norm hb)
    generalize hM : Lev.norm ⟨N, l⟩ = M at c0 hr ⊢
    obtain ⟨Mn, Mv⟩ := M
    obtain ⟨hMn, hlen, hMv⟩ := hr
    replace hlen : Mv.length ≤ 64 := hlen
    replace hMn : 0 ≤ Mn ∧ Mn ≤ 1000 := hMn
    replace c1 := c1 (⟨Mn, Mv⟩, 0)
    by_cases hb' : Lev.right ⟨N', l'⟩ = true
    · rw [hb', Bool.true_and]
      rw [nrm_right hb'] at c1
      have hr' := right_iff.1 (right_norm hb')
      generalize hM' : Lev.norm ⟨N', l'⟩ = M' at c1 hr' ⊢
      obtain ⟨Mn', Mv'⟩ := M'
      obtain ⟨hMn', hlen', hMv'⟩ := hr'
      replace hlen' : Mv'.length ≤ 64 := hlen'
      replace hMn' : 0 ≤ Mn' ∧ Mn' ≤ 1000 := hMn'
      simp only at c0 c1
      have H2 : Hp n h (n + 2) ((n + 1, (Ob.row 2 [.agg [.int .i64 (Mn'), slD 2 encV (Sl.app Mv')]])) :: (n, (Ob.row 2 [.agg [.int .i64 (Mn), slD 2 encV (Sl.app Mv)]])) :: h) := ((Hp.start hg).box (r := n) (m := n + 1) (Nat.le_refl _) (by omega) (flatL ⟨Mn, Sl.app Mv⟩)).box (m := n + 2) (r := n + 1) (by omega) (by omega) (flatL ⟨Mn', Sl.app Mv'⟩)
      rw [leqN_top]
      show _ = Rd.ok (.bool (decide (Mn ≤ topL Mn' Mv') && Mv.all fun p => has Mv' p)) n h
      rw [f125_eq]; unfold c125; rw [callFn_eq (by rfl)]
      simp (disch := first | assumption | omega | (simp (disch := first | assumption | omega) only [sB, Nat.reduceAdd, Nat.reduceLT, Nat.reduceLeDiff, Nat.reduceEqDiff, Nat.reduceMul, ↓reduceIte]; done) | fail) only [sA, ↓reduceIte, Nat.reduceLT, Nat.reduceEqDiff, Nat.reduceAdd, Nat.reduceLeDiff, c0, c1, s3, s3']
      generalize hr : LX (cF Go.Proofs.Try.prog) (.loop l125_0) _ _ _ = r
      obtain ⟨x, e2, n2, h2, rfl, rfl, H3, p3, b0, b1, g2, g3, g7⟩ := loop_up hr Mv'.length
        (fun i e n' h' => Hp n h n' h' ∧ n + 2 ≤ n' ∧ getO h' n = (Ob.row 2 [.agg [.int .i64 (Mn), slD 2 encV (Sl.app Mv)]]) ∧ getO h' (n + 1) = (Ob.row 2 [.agg [.int .i64 (Mn'), slD 2 encV (Sl.app Mv')]]) ∧ get (po 2) e = .ptr n 0 0 ∧ get (po 3) e = .ptr (n + 1) 0 0 ∧ get (po 7) e = .int .i64 (topL Mn' (Mv'.take i)) ∧ get (po 8) e = .int .i64 (i : Nat))
        (fun x e n' h' => x = .exit 0 ∧ Hp n h n' h' ∧ n + 2 ≤ n' ∧ getO h' n = (Ob.row 2 [.agg [.int .i64 (Mn), slD 2 encV (Sl.app Mv)]]) ∧ getO h' (n + 1) = (Ob.row 2 [.agg [.int .i64 (Mn'), slD 2 encV (Sl.app Mv')]]) ∧ get (po 2) e = .ptr n 0 0 ∧ get (po 3) e = .ptr (n + 1) 0 0 ∧ get (po 7) e = .int .i64 (topL Mn' Mv'))
        (by
          rintro e n' h' ⟨H, p1, b0, b1, g2, g3, g7, g8⟩
          rw [List.take_length] at g7
          unfold l125_0
          simp (disch := first | assumption | omega | (simp (disch := first | assumption | omega) only [sB, Nat.reduceAdd, Nat.reduceLT, Nat.reduceLeDiff, Nat.reduceEqDiff, Nat.reduceMul, ↓reduceIte]; done) | fail) only [sA, ↓reduceIte, Nat.reduceLT, Nat.reduceEqDiff, Nat.reduceAdd, Nat.reduceLeDiff, g3, g8, b1]
          exact ⟨_, _, _, _, rfl, by simp, rfl, H.mono (by omega), by omega, b0, b1, by simp (disch := first | assumption | omega | (simp (disch := first | assumption | omega) only [sB, Nat.reduceAdd, Nat.reduceLT, Nat.reduceLeDiff, Nat.reduceEqDiff, Nat.reduceMul, ↓reduceIte]; done) | fail) only [sA, ↓reduceIte, Nat.reduceLT, Nat.reduceEqDiff, Nat.reduceAdd, Nat.reduceLeDiff, g2], by simp (disch := first | assumption | omega | (simp (disch := first | assumption | omega) only [sB, Nat.reduceAdd, Nat.reduceLT, Nat.reduceLeDiff, Nat.reduceEqDiff, Nat.reduceMul, ↓reduceIte]; done) | fail) only [sA, ↓reduceIte, Nat.reduceLT, Nat.reduceEqDiff, Nat.reduceAdd, Nat.reduceLeDiff, g3], by simp (disch := first | assumption | omega | (simp (disch := first | assumption | omega) only [sB, Nat.reduceAdd, Nat.reduceLT, Nat.reduceLeDiff, Nat.reduceEqDiff, Nat.reduceMul, ↓reduceIte]; done) | fail) only [sA, ↓reduceIte, Nat.reduceLT, Nat.reduceEqDiff, Nat.reduceAdd, Nat.reduceLeDiff, g7]⟩)
        (by
          rintro i e n' h' hi ⟨H, p1, b0, b1, g2, g3, g7, g8⟩
          have hz : topL Mn' (Mv'.take (i + 1)) = if topL Mn' (Mv'.take i) < Mv'[i].2 then Mv'[i].2 else topL Mn' (Mv'.take i) := by rw [take_snoc hi, topL_snoc]
          unfold l125_0
          by_cases a1 : topL Mn' (Mv'.take i) < Mv'[i].2
          · have a2 : (Sl.app Mv').el[i].2 > topL Mn' (Mv'.take i) := a1
            simp (disch := first | assumption | omega | (simp (disch := first | assumption | omega) only [sB, Nat.reduceAdd, Nat.reduceLT, Nat.reduceLeDiff, Nat.reduceEqDiff, Nat.reduceMul, ↓reduceIte, app_el, hi]; done) | fail) only [sA, ↓reduceIte, Nat.reduceLT, Nat.reduceEqDiff, Nat.reduceAdd, Nat.reduceLeDiff, g3, g7, g8, b1, app_el, encV, a1, app_el, hi]
            exact ⟨_, _, _, _, rfl, .inl ⟨rfl, H.mono (by omega), by omega, b0, b1, by simp (disch := first | assumption | omega | (simp (disch := first | assumption | omega) only [sB, Nat.reduceAdd, Nat.reduceLT, Nat.reduceLeDiff, Nat.reduceEqDiff, Nat.reduceMul, ↓reduceIte]; done) | fail) only [sA, ↓reduceIte, Nat.reduceLT, Nat.reduceEqDiff, Nat.reduceAdd, Nat.reduceLeDiff, g2], by simp (disch := first | assumption | omega | (simp (disch := first | assumption | omega) only [sB, Nat.reduceAdd, Nat.reduceLT, Nat.reduceLeDiff, Nat.reduceEqDiff, Nat.reduceMul, ↓reduceIte]; done) | fail) only [sA, ↓reduceIte, Nat.reduceLT, Nat.reduceEqDiff, Nat.reduceAdd, Nat.reduceLeDiff, g3], by rw [hz, if_pos a1]; simp (disch := first | assumption | omega | (simp (disch := first | assumption | omega) only [sB, Nat.reduceAdd, Nat.reduceLT, Nat.reduceLeDiff, Nat.reduceEqDiff, Nat.reduceMul, ↓reduceIte]; done) | fail) only [sA, ↓reduceIte, Nat.reduceLT, Nat.reduceEqDiff, Nat.reduceAdd, Nat.reduceLeDiff], by simp (disch := first | assumption | omega | (simp (disch := first | assumption | omega) only [sB, Nat.reduceAdd, Nat.reduceLT, Nat.reduceLeDiff, Nat.reduceEqDiff, Nat.reduceMul, ↓reduceIte]; done) | fail) only [sA, ↓reduceIte, Nat.reduceLT, Nat.reduceEqDiff, Nat.reduceAdd, Nat.reduceLeDiff]⟩⟩
          · have a2 : ¬ (Sl.app Mv').el[i].2 > topL Mn' (Mv'.take i) := a1
            simp (disch := first | assumption | omega | (simp (disch := first | assumption | omega) only [sB, Nat.reduceAdd, Nat.reduceLT, Nat.reduceLeDiff, Nat.reduceEqDiff, Nat.reduceMul, ↓reduceIte, app_el, hi]; done) | fail) only [sA, ↓reduceIte, Nat.reduceLT, Nat.reduceEqDiff, Nat.reduceAdd, Nat.reduceLeDiff, g3, g7, g8, b1, app_el, encV, a1, app_el, hi]
            exact ⟨_, _, _, _, rfl, .inl ⟨rfl, H.mono (by omega), by omega, b0, b1, by simp (disch := first | assumption | omega | (simp (disch := first | assumption | omega) only [sB, Nat.reduceAdd, Nat.reduceLT, Nat.reduceLeDiff, Nat.reduceEqDiff, Nat.reduceMul, ↓reduceIte]; done) | fail) only [sA, ↓reduceIte, Nat.reduceLT, Nat.reduceEqDiff, Nat.reduceAdd, Nat.reduceLeDiff, g2], by simp (disch := first | assumption | omega | (simp (disch := first | assumption | omega) only [sB, Nat.reduceAdd, Nat.reduceLT, Nat.reduceLeDiff, Nat.reduceEqDiff, Nat.reduceMul, ↓reduceIte]; done) | fail) only [sA, ↓reduceIte, Nat.reduceLT, Nat.reduceEqDiff, Nat.reduceAdd, Nat.reduceLeDiff, g3], by rw [hz, if_neg a1]; simp (disch := first | assumption | omega | (simp (disch := first | assumption | omega) only [sB, Nat.reduceAdd, Nat.reduceLT, Nat.reduceLeDiff, Nat.reduceEqDiff, Nat.reduceMul, ↓reduceIte]; done) | fail) only [sA, ↓reduceIte, Nat.reduceLT, Nat.reduceEqDiff, Nat.reduceAdd, Nat.reduceLeDiff, g7], by simp (disch := first | assumption | omega | (simp (disch := first | assumption | omega) only [sB, Nat.reduceAdd, Nat.reduceLT, Nat.reduceLeDiff, Nat.reduceEqDiff, Nat.reduceMul, ↓reduceIte]; done) | fail) only [sA, ↓reduceIte, Nat.reduceLT, Nat.reduceEqDiff, Nat.reduceAdd, Nat.reduceLeDiff]⟩⟩)
        ⟨H2.mono (by omega), by omega, by simp (disch := first | assumption | omega | (simp (disch := first | assumption | omega) only [sB, Nat.reduceAdd, Nat.reduceLT, Nat.reduceLeDiff, Nat.reduceEqDiff, Nat.reduceMul, ↓reduceIte]; done) | fail) only [sA, ↓reduceIte, Nat.reduceLT, Nat.reduceEqDiff, Nat.reduceAdd, Nat.reduceLeDiff], by simp (disch := first | assumption | omega | (simp (disch := first | assumption | omega) only [sB, Nat.reduceAdd, Nat.reduceLT, Nat.reduceLeDiff, Nat.reduceEqDiff, Nat.reduceMul, ↓reduceIte]; done) | fail) only [sA, ↓reduceIte, Nat.reduceLT, Nat.reduceEqDiff, Nat.reduceAdd, Nat.reduceLeDiff], by simp (disch := first | assumption | omega | (simp (disch := first | assumption | omega) only [sB, Nat.reduceAdd, Nat.reduceLT, Nat.reduceLeDiff, Nat.reduceEqDiff, Nat.reduceMul, ↓reduceIte]; done) | fail) only [sA, ↓reduceIte, Nat.reduceLT, Nat.reduceEqDiff, Nat.reduceAdd, Nat.reduceLeDiff], by simp (disch := first | assumption | omega | (simp (disch := first | assumption | omega) only [sB, Nat.reduceAdd, Nat.reduceLT, Nat.reduceLeDiff, Nat.reduceEqDiff, Nat.reduceMul, ↓reduceIte]; done) | fail) only [sA, ↓reduceIte, Nat.reduceLT, Nat.reduceEqDiff, Nat.reduceAdd, Nat.reduceLeDiff], by simp (disch := first | assumption | omega | (simp (disch := first | assumption | omega) only [sB, Nat.reduceAdd, Nat.reduceLT, Nat.reduceLeDiff, Nat.reduceEqDiff, Nat.reduceMul, ↓reduceIte]; done) | fail) only [sA, ↓reduceIte, Nat.reduceLT, Nat.reduceEqDiff, Nat.reduceAdd, Nat.reduceLeDiff]; rfl, by simp (disch := first | assumption | omega | (simp (disch := first | assumption | omega) only [sB, Nat.reduceAdd, Nat.reduceLT, Nat.reduceLeDiff, Nat.reduceEqDiff, Nat.reduceMul, ↓reduceIte]; done) | fail) only [sA, ↓reduceIte, Nat.reduceLT, Nat.reduceEqDiff, Nat.reduceAdd, Nat.reduceLeDiff]⟩
      generalize topL Mn' Mv' = T at g7 ⊢
      by_cases t1 : Mn ≤ T
      · rw [decide_eq_true t1, Bool.true_and]
        have t2 : ¬ Mn > T := by omega
        simp (disch := first | assumption | omega | (simp (disch := first | assumption | omega) only [sB, Nat.reduceAdd, Nat.reduceLT, Nat.reduceLeDiff, Nat.reduceEqDiff, Nat.reduceMul, ↓reduceIte]; done) | fail) only [sA, ↓reduceIte, Nat.reduceLT, Nat.reduceEqDiff, Nat.reduceAdd, Nat.reduceLeDiff, g2, g3, g7, b0]
        generalize hr : LX (cF Go.Proofs.Try.prog) (.loop l125_2) _ _ _ = r
        obtain ⟨x, e3, n3, h3, rfl, H4, q⟩ := loop_up hr Mv.length
          (fun i e n' h' => Hp n h n' h' ∧ n + 2 ≤ n' ∧ getO h' n = (Ob.row 2 [.agg [.int .i64 (Mn), slD 2 encV (Sl.app Mv)]]) ∧ getO h' (n + 1) = (Ob.row 2 [.agg [.int .i64 (Mn'), slD 2 encV (Sl.app Mv')]]) ∧ ((Mv.take i).all fun p => has Mv' p) = true ∧ get (po 2) e = .ptr n 0 0 ∧ get (po 3) e = .ptr (n + 1) 0 0 ∧ get (po 9) e = .int .i64 (i : Nat))
          (fun x e n' h' => Hp n h n' h' ∧ ((x = .exit 2 ∧ (Mv.all fun p => has Mv' p) = true) ∨ (x = .ret ∧ (Mv.all fun p => has Mv' p) = false ∧ get (po 4) e = .bool false)))
          (by
            rintro e n' h' ⟨H, p1, b0, b1, ht, g2, g3, g9⟩
            rw [List.take_length] at ht
            unfold l125_2
            simp (disch := first | assumption | omega | (simp (disch := first | assumption | omega) only [sB, Nat.reduceAdd, Nat.reduceLT, Nat.reduceLeDiff, Nat.reduceEqDiff, Nat.reduceMul, ↓reduceIte]; done) | fail) only [sA, ↓reduceIte, Nat.reduceLT, Nat.reduceEqDiff, Nat.reduceAdd, Nat.reduceLeDiff, g2, g9, b0]
            exact ⟨_, _, _, _, rfl, by simp, H.mono (by omega), .inl ⟨rfl, ht⟩⟩)
          (by
            rintro i e n' h' hi ⟨H, p1, b0, b1, ht, g2, g3, g9⟩
            unfold l125_2
            simp (disch := first | assumption | omega | (simp (disch := first | assumption | omega) only [sB, Nat.reduceAdd, Nat.reduceLT, Nat.reduceLeDiff, Nat.reduceEqDiff, Nat.reduceMul, ↓reduceIte]; done) | fail) only [sA, ↓reduceIte, Nat.reduceLT, Nat.reduceEqDiff, Nat.reduceAdd, Nat.reduceLeDiff, g2, g9, b0]
            generalize hr : LX (cF Go.Proofs.Try.prog) (.loop l125_1) _ _ _ = r
            obtain ⟨x, e4, n4, h4, rfl, rfl, H5, p5, d0, d1, k2, k3, k9, k10⟩ := loop_up hr Mv'.length
              (fun j e n' h' => Hp n h n' h' ∧ n + 2 ≤ n' ∧ getO h' n = (Ob.row 2 [.agg [.int .i64 (Mn), slD 2 encV (Sl.app Mv)]]) ∧ getO h' (n + 1) = (Ob.row 2 [.agg [.int .i64 (Mn'), slD 2 encV (Sl.app Mv')]]) ∧ get (po 2) e = .ptr n 0 0 ∧ get (po 3) e = .ptr (n + 1) 0 0 ∧ get (po 9) e = .int .i64 (i : Nat) ∧ get (po 10) e = .bool (has (Mv'.take j) Mv[i]) ∧ get (po 11) e = .int .i64 (j : Nat))
              (fun x e n' h' => x = .exit 4 ∧ Hp n h n' h' ∧ n + 2 ≤ n' ∧ getO h' n = (Ob.row 2 [.agg [.int .i64 (Mn), slD 2 encV (Sl.app Mv)]]) ∧ getO h' (n + 1) = (Ob.row 2 [.agg [.int .i64 (Mn'), slD 2 encV (Sl.app Mv')]]) ∧ get (po 2) e = .ptr n 0 0 ∧ get (po 3) e = .ptr (n + 1) 0 0 ∧ get (po 9) e = .int .i64 (i : Nat) ∧ get (po 10) e = .bool (has Mv' Mv[i]))
              (by
                rintro e n' h' ⟨H, p1, b0, b1, g2, g3, g9, g10, g11⟩
                rw [List.take_length] at g10
                unfold l125_1
                simp (disch := first | assumption | omega | (simp (disch := first | assumption | omega) only [sB, Nat.reduceAdd, Nat.reduceLT, Nat.reduceLeDiff, Nat.reduceEqDiff, Nat.reduceMul, ↓reduceIte]; done) | fail) only [sA, ↓reduceIte, Nat.reduceLT, Nat.reduceEqDiff, Nat.reduceAdd, Nat.reduceLeDiff, g3, g11, b1]
                exact ⟨_, _, _, _, rfl, by simp, rfl, H.mono (by omega), by omega, b0, b1, by simp (disch := first | assumption | omega | (simp (disch := first | assumption | omega) only [sB, Nat.reduceAdd, Nat.reduceLT, Nat.reduceLeDiff, Nat.reduceEqDiff, Nat.reduceMul, ↓reduceIte]; done) | fail) only [sA, ↓reduceIte, Nat.reduceLT, Nat.reduceEqDiff, Nat.reduceAdd, Nat.reduceLeDiff, g2], by simp (disch := first | assumption | omega | (simp (disch := first | assumption | omega) only [sB, Nat.reduceAdd, Nat.reduceLT, Nat.reduceLeDiff, Nat.reduceEqDiff, Nat.reduceMul, ↓reduceIte]; done) | fail) only [sA, ↓reduceIte, Nat.reduceLT, Nat.reduceEqDiff, Nat.reduceAdd, Nat.reduceLeDiff, g3], by simp (disch := first | assumption | omega | (simp (disch := first | assumption | omega) only [sB, Nat.reduceAdd, Nat.reduceLT, Nat.reduceLeDiff, Nat.reduceEqDiff, Nat.reduceMul, ↓reduceIte]; done) | fail) only [sA, ↓reduceIte, Nat.reduceLT, Nat.reduceEqDiff, Nat.reduceAdd, Nat.reduceLeDiff, g9], by simp (disch := first | assumption | omega | (simp (disch := first | assumption | omega) only [sB, Nat.reduceAdd, Nat.reduceLT, Nat.reduceLeDiff, Nat.reduceEqDiff, Nat.reduceMul, ↓reduceIte]; done) | fail) only [sA, ↓reduceIte, Nat.reduceLT, Nat.reduceEqDiff, Nat.reduceAdd, Nat.reduceLeDiff, g10]⟩)
              (by
                rintro j e n' h' hj ⟨H, p1, b0, b1, g2, g3, g9, g10, g11⟩
                have hsn : has (Mv'.take (j + 1)) Mv[i] = (has (Mv'.take j) Mv[i] || (decide (Mv[i].1 = Mv'[j].1) && decide (Mv[i].2 ≤ Mv'[j].2))) := by rw [take_snoc hj, has_snoc]
                unfold l125_1
                cases hacc : has (Mv'.take j) Mv[i] with
                | true =>
                  rw [hacc, Bool.true_or] at hsn
                  rw [hacc] at g10
                  simp (disch := first | assumption | omega | (simp (disch := first | assumption | omega) only [sB, Nat.reduceAdd, Nat.reduceLT, Nat.reduceLeDiff, Nat.reduceEqDiff, Nat.reduceMul, ↓reduceIte, app_el, hi, hj]; done) | fail) only [sA, ↓reduceIte, Nat.reduceLT, Nat.reduceEqDiff, Nat.reduceAdd, Nat.reduceLeDiff, g2, g3, g9, g10, g11, b0, b1, app_el, encV, app_el, hi, hj]
                  exact ⟨_, _, _, _, rfl, .inl ⟨rfl, H.mono (by omega), by omega, b0, b1, by simp (disch := first | assumption | omega | (simp (disch := first | assumption | omega) only [sB, Nat.reduceAdd, Nat.reduceLT, Nat.reduceLeDiff, Nat.reduceEqDiff, Nat.reduceMul, ↓reduceIte]; done) | fail) only [sA, ↓reduceIte, Nat.reduceLT, Nat.reduceEqDiff, Nat.reduceAdd, Nat.reduceLeDiff, g2], by simp (disch := first | assumption | omega | (simp (disch := first | assumption | omega) only [sB, Nat.reduceAdd, Nat.reduceLT, Nat.reduceLeDiff, Nat.reduceEqDiff, Nat.reduceMul, ↓reduceIte]; done) | fail) only [sA, ↓reduceIte, Nat.reduceLT, Nat.reduceEqDiff, Nat.reduceAdd, Nat.reduceLeDiff, g3], by simp (disch := first | assumption | omega | (simp (disch := first | assumption | omega) only [sB, Nat.reduceAdd, Nat.reduceLT, Nat.reduceLeDiff, Nat.reduceEqDiff, Nat.reduceMul, ↓reduceIte]; done) | fail) only [sA, ↓reduceIte, Nat.reduceLT, Nat.reduceEqDiff, Nat.reduceAdd, Nat.reduceLeDiff, g9], by rw [hsn]; simp (disch := first | assumption | omega | (simp (disch := first | assumption | omega) only [sB, Nat.reduceAdd, Nat.reduceLT, Nat.reduceLeDiff, Nat.reduceEqDiff, Nat.reduceMul, ↓reduceIte]; done) | fail) only [sA, ↓reduceIte, Nat.reduceLT, Nat.reduceEqDiff, Nat.reduceAdd, Nat.reduceLeDiff], by simp (disch := first | assumption | omega | (simp (disch := first | assumption | omega) only [sB, Nat.reduceAdd, Nat.reduceLT, Nat.reduceLeDiff, Nat.reduceEqDiff, Nat.reduceMul, ↓reduceIte]; done) | fail) only [sA, ↓reduceIte, Nat.reduceLT, Nat.reduceEqDiff, Nat.reduceAdd, Nat.reduceLeDiff]⟩⟩
                | false =>
                  rw [hacc, Bool.false_or] at hsn
                  rw [hacc] at g10
                  by_cases a1 : Mv[i].1 = Mv'[j].1
                  · rw [decide_eq_true a1, Bool.true_and] at hsn
                    by_cases a2 : Mv[i].2 ≤ Mv'[j].2
                    · rw [decide_eq_true a2] at hsn
                      simp (disch := first | assumption | omega | (simp (disch := first | assumption | omega) only [sB, Nat.reduceAdd, Nat.reduceLT, Nat.reduceLeDiff, Nat.reduceEqDiff, Nat.reduceMul, ↓reduceIte, app_el, hi, hj]; done) | fail) only [sA, ↓reduceIte, Nat.reduceLT, Nat.reduceEqDiff, Nat.reduceAdd, Nat.reduceLeDiff, g2, g3, g9, g10, g11, b0, b1, app_el, encV, app_el, hi, hj]
                      exact ⟨_, _, _, _, rfl, .inl ⟨rfl, H.mono (by omega), by omega, b0, b1, by simp (disch := first | assumption | omega | (simp (disch := first | assumption | omega) only [sB, Nat.reduceAdd, Nat.reduceLT, Nat.reduceLeDiff, Nat.reduceEqDiff, Nat.reduceMul, ↓reduceIte]; done) | fail) only [sA, ↓reduceIte, Nat.reduceLT, Nat.reduceEqDiff, Nat.reduceAdd, Nat.reduceLeDiff, g2], by simp (disch := first | assumption | omega | (simp (disch := first | assumption | omega) only [sB, Nat.reduceAdd, Nat.reduceLT, Nat.reduceLeDiff, Nat.reduceEqDiff, Nat.reduceMul, ↓reduceIte]; done) | fail) only [sA, ↓reduceIte, Nat.reduceLT, Nat.reduceEqDiff, Nat.reduceAdd, Nat.reduceLeDiff, g3], by simp (disch := first | assumption | omega | (simp (disch := first | assumption | omega) only [sB, Nat.reduceAdd, Nat.reduceLT, Nat.reduceLeDiff, Nat.reduceEqDiff, Nat.reduceMul, ↓reduceIte]; done) | fail) only [sA, ↓reduceIte, Nat.reduceLT, Nat.reduceEqDiff, Nat.reduceAdd, Nat.reduceLeDiff, g9], by rw [hsn]; simp (disch := first | assumption | omega | (simp (disch := first | assumption | omega) only [sB, Nat.reduceAdd, Nat.reduceLT, Nat.reduceLeDiff, Nat.reduceEqDiff, Nat.reduceMul, ↓reduceIte]; done) | fail) only [sA, ↓reduceIte, Nat.reduceLT, Nat.reduceEqDiff, Nat.reduceAdd, Nat.reduceLeDiff], by simp (disch := first | assumption | omega | (simp (disch := first | assumption | omega) only [sB, Nat.reduceAdd, Nat.reduceLT, Nat.reduceLeDiff, Nat.reduceEqDiff, Nat.reduceMul, ↓reduceIte]; done) | fail) only [sA, ↓reduceIte, Nat.reduceLT, Nat.reduceEqDiff, Nat.reduceAdd, Nat.reduceLeDiff]⟩⟩
                    · rw [decide_eq_false a2] at hsn
                      simp (disch := first | assumption | omega | (simp (disch := first | assumption | omega) only [sB, Nat.reduceAdd, Nat.reduceLT, Nat.reduceLeDiff, Nat.reduceEqDiff, Nat.reduceMul, ↓reduceIte, app_el, hi, hj]; done) | fail) only [sA, ↓reduceIte, Nat.reduceLT, Nat.reduceEqDiff, Nat.reduceAdd, Nat.reduceLeDiff, g2, g3, g9, g10, g11, b0, b1, app_el, encV, app_el, hi, hj]
                      exact ⟨_, _, _, _, rfl, .inl ⟨rfl, H.mono (by omega), by omega, b0, b1, by simp (disch := first | assumption | omega | (simp (disch := first | assumption | omega) only [sB, Nat.reduceAdd, Nat.reduceLT, Nat.reduceLeDiff, Nat.reduceEqDiff, Nat.reduceMul, ↓reduceIte]; done) | fail) only [sA, ↓reduceIte, Nat.reduceLT, Nat.reduceEqDiff, Nat.reduceAdd, Nat.reduceLeDiff, g2], by simp (disch := first | assumption | omega | (simp (disch := first | assumption | omega) only [sB, Nat.reduceAdd, Nat.reduceLT, Nat.reduceLeDiff, Nat.reduceEqDiff, Nat.reduceMul, ↓reduceIte]; done) | fail) only [sA, ↓reduceIte, Nat.reduceLT, Nat.reduceEqDiff, Nat.reduceAdd, Nat.reduceLeDiff, g3], by simp (disch := first | assumption | omega | (simp (disch := first | assumption | omega) only [sB, Nat.reduceAdd, Nat.reduceLT, Nat.reduceLeDiff, Nat.reduceEqDiff, Nat.reduceMul, ↓reduceIte]; done) | fail) only [sA, ↓reduceIte, Nat.reduceLT, Nat.reduceEqDiff, Nat.reduceAdd, Nat.reduceLeDiff, g9], by rw [hsn]; simp (disch := first | assumption | omega | (simp (disch := first | assumption | omega) only [sB, Nat.reduceAdd, Nat.reduceLT, Nat.reduceLeDiff, Nat.reduceEqDiff, Nat.reduceMul, ↓reduceIte]; done) | fail) only [sA, ↓reduceIte, Nat.reduceLT, Nat.reduceEqDiff, Nat.reduceAdd, Nat.reduceLeDiff], by simp (disch := first | assumption | omega | (simp (disch := first | assumption | omega) only [sB, Nat.reduceAdd, Nat.reduceLT, Nat.reduceLeDiff, Nat.reduceEqDiff, Nat.reduceMul, ↓reduceIte]; done) | fail) only [sA, ↓reduceIte, Nat.reduceLT, Nat.reduceEqDiff, Nat.reduceAdd, Nat.reduceLeDiff]⟩⟩
                  · rw [decide_eq_false a1, Bool.false_and] at hsn
                    simp (disch := first | assumption | omega | (simp (disch := first | assumption | omega) only [sB, Nat.reduceAdd, Nat.reduceLT, Nat.reduceLeDiff, Nat.reduceEqDiff, Nat.reduceMul, ↓reduceIte, app_el, hi, hj]; done) | fail) only [sA, ↓reduceIte, Nat.reduceLT, Nat.reduceEqDiff, Nat.reduceAdd, Nat.reduceLeDiff, g2, g3, g9, g10, g11, b0, b1, app_el, encV, app_el, hi, hj]
                    exact ⟨_, _, _, _, rfl, .inl ⟨rfl, H.mono (by omega), by omega, b0, b1, by simp (disch := first | assumption | omega | (simp (disch := first | assumption | omega) only [sB, Nat.reduceAdd, Nat.reduceLT, Nat.reduceLeDiff, Nat.reduceEqDiff, Nat.reduceMul, ↓reduceIte]; done) | fail) only [sA, ↓reduceIte, Nat.reduceLT, Nat.reduceEqDiff, Nat.reduceAdd, Nat.reduceLeDiff, g2], by simp (disch := first | assumption | omega | (simp (disch := first | assumption | omega) only [sB, Nat.reduceAdd, Nat.reduceLT, Nat.reduceLeDiff, Nat.reduceEqDiff, Nat.reduceMul, ↓reduceIte]; done) | fail) only [sA, ↓reduceIte, Nat.reduceLT, Nat.reduceEqDiff, Nat.reduceAdd, Nat.reduceLeDiff, g3], by simp (disch := first | assumption | omega | (simp (disch := first | assumption | omega) only [sB, Nat.reduceAdd, Nat.reduceLT, Nat.reduceLeDiff, Nat.reduceEqDiff, Nat.reduceMul, ↓reduceIte]; done) | fail) only [sA, ↓reduceIte, Nat.reduceLT, Nat.reduceEqDiff, Nat.reduceAdd, Nat.reduceLeDiff, g9], by rw [hsn]; simp (disch := first | assumption | omega | (simp (disch := first | assumption | omega) only [sB, Nat.reduceAdd, Nat.reduceLT, Nat.reduceLeDiff, Nat.reduceEqDiff, Nat.reduceMul, ↓reduceIte]; done) | fail) only [sA, ↓reduceIte, Nat.reduceLT, Nat.reduceEqDiff, Nat.reduceAdd, Nat.reduceLeDiff], by simp (disch := first | assumption | omega | (simp (disch := first | assumption | omega) only [sB, Nat.reduceAdd, Nat.reduceLT, Nat.reduceLeDiff, Nat.reduceEqDiff, Nat.reduceMul, ↓reduceIte]; done) | fail) only [sA, ↓reduceIte, Nat.reduceLT, Nat.reduceEqDiff, Nat.reduceAdd, Nat.reduceLeDiff]⟩⟩)
              ⟨H.mono (by omega), by omega, b0, b1, by simp (disch := first | assumption | omega | (simp (disch := first | assumption | omega) only [sB, Nat.reduceAdd, Nat.reduceLT, Nat.reduceLeDiff, Nat.reduceEqDiff, Nat.reduceMul, ↓reduceIte]; done) | fail) only [sA, ↓reduceIte, Nat.reduceLT, Nat.reduceEqDiff, Nat.reduceAdd, Nat.reduceLeDiff, g2], by simp (disch := first | assumption | omega | (simp (disch := first | assumption | omega) only [sB, Nat.reduceAdd, Nat.reduceLT, Nat.reduceLeDiff, Nat.reduceEqDiff, Nat.reduceMul, ↓reduceIte]; done) | fail) only [sA, ↓reduceIte, Nat.reduceLT, Nat.reduceEqDiff, Nat.reduceAdd, Nat.reduceLeDiff, g3], by simp (disch := first | assumption | omega | (simp (disch := first | assumption | omega) only [sB, Nat.reduceAdd, Nat.reduceLT, Nat.reduceLeDiff, Nat.reduceEqDiff, Nat.reduceMul, ↓reduceIte]; done) | fail) only [sA, ↓reduceIte, Nat.reduceLT, Nat.reduceEqDiff, Nat.reduceAdd, Nat.reduceLeDiff, g9], by simp (disch := first | assumption | omega | (simp (disch := first | assumption | omega) only [sB, Nat.reduceAdd, Nat.reduceLT, Nat.reduceLeDiff, Nat.reduceEqDiff, Nat.reduceMul, ↓reduceIte]; done) | fail) only [sA, ↓reduceIte, Nat.reduceLT, Nat.reduceEqDiff, Nat.reduceAdd, Nat.reduceLeDiff]; rfl, by simp (disch := first | assumption | omega | (simp (disch := first | assumption | omega) only [sB, Nat.reduceAdd, Nat.reduceLT, Nat.reduceLeDiff, Nat.reduceEqDiff, Nat.reduceMul, ↓reduceIte]; done) | fail) only [sA, ↓reduceIte, Nat.reduceLT, Nat.reduceEqDiff, Nat.reduceAdd, Nat.reduceLeDiff]⟩
            have hall : ((Mv.take (i + 1)).all fun p => has Mv' p) = has Mv' Mv[i] := by rw [take_snoc hi, List.all_append, ht]; simp
            cases hz : has Mv' Mv[i] with
            | true =>
              rw [hz] at hall k10
              simp (disch := first | assumption | omega | (simp (disch := first | assumption | omega) only [sB, Nat.reduceAdd, Nat.reduceLT, Nat.reduceLeDiff, Nat.reduceEqDiff, Nat.reduceMul, ↓reduceIte]; done) | fail) only [sA, ↓reduceIte, Nat.reduceLT, Nat.reduceEqDiff, Nat.reduceAdd, Nat.reduceLeDiff, k2, k3, k9, k10]
              exact ⟨_, _, _, _, rfl, .inl ⟨rfl, H5.mono (by omega), by omega, d0, d1, hall, by simp (disch := first | assumption | omega | (simp (disch := first | assumption | omega) only [sB, Nat.reduceAdd, Nat.reduceLT, Nat.reduceLeDiff, Nat.reduceEqDiff, Nat.reduceMul, ↓reduceIte]; done) | fail) only [sA, ↓reduceIte, Nat.reduceLT, Nat.reduceEqDiff, Nat.reduceAdd, Nat.reduceLeDiff, k2], by simp (disch := first | assumption | omega | (simp (disch := first | assumption | omega) only [sB, Nat.reduceAdd, Nat.reduceLT, Nat.reduceLeDiff, Nat.reduceEqDiff, Nat.reduceMul, ↓reduceIte]; done) | fail) only [sA, ↓reduceIte, Nat.reduceLT, Nat.reduceEqDiff, Nat.reduceAdd, Nat.reduceLeDiff, k3], by simp (disch := first | assumption | omega | (simp (disch := first | assumption | omega) only [sB, Nat.reduceAdd, Nat.reduceLT, Nat.reduceLeDiff, Nat.reduceEqDiff, Nat.reduceMul, ↓reduceIte]; done) | fail) only [sA, ↓reduceIte, Nat.reduceLT, Nat.reduceEqDiff, Nat.reduceAdd, Nat.reduceLeDiff]⟩⟩
            | false =>
              rw [hz] at k10
              simp (disch := first | assumption | omega | (simp (disch := first | assumption | omega) only [sB, Nat.reduceAdd, Nat.reduceLT, Nat.reduceLeDiff, Nat.reduceEqDiff, Nat.reduceMul, ↓reduceIte]; done) | fail) only [sA, ↓reduceIte, Nat.reduceLT, Nat.reduceEqDiff, Nat.reduceAdd, Nat.reduceLeDiff, k2, k3, k9, k10]
              exact ⟨_, _, _, _, rfl, .inr ⟨by simp, H5.mono (by omega), .inr ⟨rfl, List.all_eq_false.2 ⟨_, List.getElem_mem hi, by rw [hz]; decide⟩, by simp (disch := first | assumption | omega | (simp (disch := first | assumption | omega) only [sB, Nat.reduceAdd, Nat.reduceLT, Nat.reduceLeDiff, Nat.reduceEqDiff, Nat.reduceMul, ↓reduceIte]; done) | fail) only [sA, ↓reduceIte, Nat.reduceLT, Nat.reduceEqDiff, Nat.reduceAdd, Nat.reduceLeDiff]⟩⟩⟩)
          ⟨H3.mono (by omega), by omega, b0, b1, rfl, by simp (disch := first | assumption | omega | (simp (disch := first | assumption | omega) only [sB, Nat.reduceAdd, Nat.reduceLT, Nat.reduceLeDiff, Nat.reduceEqDiff, Nat.reduceMul, ↓reduceIte]; done) | fail) only [sA, ↓reduceIte, Nat.reduceLT, Nat.reduceEqDiff, Nat.reduceAdd, Nat.reduceLeDiff, g2], by simp (disch := first | assumption | omega | (simp (disch := first | assumption | omega) only [sB, Nat.reduceAdd, Nat.reduceLT, Nat.reduceLeDiff, Nat.reduceEqDiff, Nat.reduceMul, ↓reduceIte]; done) | fail) only [sA, ↓reduceIte, Nat.reduceLT, Nat.reduceEqDiff, Nat.reduceAdd, Nat.reduceLeDiff, g3], by simp (disch := first | assumption | omega | (simp (disch := first | assumption | omega) only [sB, Nat.reduceAdd, Nat.reduceLT, Nat.reduceLeDiff, Nat.reduceEqDiff, Nat.reduceMul, ↓reduceIte]; done) | fail) only [sA, ↓reduceIte, Nat.reduceLT, Nat.reduceEqDiff, Nat.reduceAdd, Nat.reduceLeDiff]⟩
        rcases q with ⟨rfl, q⟩ | ⟨rfl, q, q2⟩
        · rw [q]
          simp (disch := first | assumption | omega | (simp (disch := first | assumption | omega) only [sB, Nat.reduceAdd, Nat.reduceLT, Nat.reduceLeDiff, Nat.reduceEqDiff, Nat.reduceMul, ↓reduceIte]; done) | fail) only [sA, ↓reduceIte, Nat.reduceLT, Nat.reduceEqDiff, Nat.reduceAdd, Nat.reduceLeDiff, finish_flat (d := .bool true) rfl (H4.mono (show n3 ≤ n3 + 1 by omega))]
        · rw [q]
          simp (disch := first | assumption | omega | (simp (disch := first | assumption | omega) only [sB, Nat.reduceAdd, Nat.reduceLT, Nat.reduceLeDiff, Nat.reduceEqDiff, Nat.reduceMul, ↓reduceIte]; done) | fail) only [sA, ↓reduceIte, Nat.reduceLT, Nat.reduceEqDiff, Nat.reduceAdd, Nat.reduceLeDiff, q2, finish_flat (d := .bool false) rfl H4]
      · rw [decide_eq_false t1, Bool.false_and]
        have t2 : Mn > T := by omega
        simp (disch := first | assumption | omega | (simp (disch := first | assumption | omega) only [sB, Nat.reduceAdd, Nat.reduceLT, Nat.reduceLeDiff, Nat.reduceEqDiff, Nat.reduceMul, ↓reduceIte]; done) | fail) only [sA, ↓reduceIte, Nat.reduceLT, Nat.reduceEqDiff, Nat.reduceAdd, Nat.reduceLeDiff, g2, g3, g7, b0, finish_flat (d := .bool false) rfl (H3.mono (show n2 ≤ n2 + 5 by omega))]
    · rw [Bool.not_eq_true] at hb'
      rw [hb', Bool.false_and]
      rw [nrm_wrong (by rw [hb']; decide)] at c1
      simp only at c0 c1
      rw [f125_eq]; unfold c125; rw [callFn_eq (by rfl)]
      simp (disch := first | assumption | omega | (simp (disch := first | assumption | omega) only [sB, Nat.reduceAdd, Nat.reduceLT, Nat.reduceLeDiff, Nat.reduceEqDiff, Nat.reduceMul, ↓reduceIte]; done) | fail) only [sA, ↓reduceIte, Nat.reduceLT, Nat.reduceEqDiff, Nat.reduceAdd, Nat.reduceLeDiff, c0, c1, s3, s3']
  · have hb2 := hb
    rw [Bool.not_eq_true] at hb
    rw [hb, Bool.false_and, Bool.false_and]
    rw [nrm_wrong hb2] at c0
    replace c1 := c1 (⟨0, []⟩, 13)
    cases hb' : Lev.right ⟨N', l'⟩ with
    | true =>
      rw [nrm_right hb'] at c1
      generalize Lev.norm ⟨N', l'⟩ = M' at c1
      obtain ⟨Mn', Mv'⟩ := M'
      simp only [slD_nil] at c0 c1
      rw [f125_eq]; unfold c125; rw [callFn_eq (by rfl)]
      simp (disch := first | assumption | omega | (simp (disch := first | assumption | omega) only [sB, Nat.reduceAdd, Nat.reduceLT, Nat.reduceLeDiff, Nat.reduceEqDiff, Nat.reduceMul, ↓reduceIte]; done) | fail) only [sA, ↓reduceIte, Nat.reduceLT, Nat.reduceEqDiff, Nat.reduceAdd, Nat.reduceLeDiff, c0, c1, s3, s3']
    | false =>
      rw [nrm_wrong (by rw [hb']; decide)] at c1
      simp only [slD_nil] at c0 c1
      rw [f125_eq]; unfold c125; rw [callFn_eq (by rfl)]
      simp (disch := first | assumption | omega | (simp (disch := first | assumption | omega) only [sB, Nat.reduceAdd, Nat.reduceLT, Nat.reduceLeDiff, Nat.reduceEqDiff, Nat.reduceMul, ↓reduceIte]; done) | fail) only [sA, ↓reduceIte, Nat.reduceLT, Nat.reduceEqDiff, Nat.reduceAdd, Nat.reduceLeDiff, c0, c1, s3, s3']
end Go.Proofs.Ytdijijblccmfbaa
