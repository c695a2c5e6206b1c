/- Merged: L7 L8 L9 LA LB. -/
import Derived.Test.YtjagmfgjlfkmgaaL6

/- The reference's canonical level. No condition but that no variable's number is below 0. -/
set_option linter.unusedSimpArgs false
set_option linter.unusedVariables false
namespace Go.Proofs.Ytjagmfgjlfkmgaa
open Go

/-- the least variable above 'last' of what was passed over, and the greatest that is added to it -/
def Scan (vs : List LV) (last next add : Int) : Prop := (next = -1 ∧ add = 0 ∧ ∀ p, p ∈ vs → p.1 ≤ last) ∨ (0 ≤ next ∧ last < next ∧ (next, add) ∈ vs ∧ ∀ p, p ∈ vs → last < p.1 → next < p.1 ∨ (p.1 = next ∧ p.2 ≤ add))
theorem scan_nil (last : Int) : Scan [] last (-1) 0 := .inl ⟨rfl, rfl, fun p hp => by cases hp⟩

def scanS (last : Int) (v : LV) (x : Int × Int) : Int × Int := if v.1 ≤ last then x else if x.1 < 0 ∨ v.1 < x.1 then v else if v.1 = x.1 ∧ x.2 < v.2 then (x.1, v.2) else x
theorem scan_snoc {vs : List LV} {last : Int} {x : Int × Int} {v : LV} (h : Scan vs last x.1 x.2) (hv : 0 ≤ v.1) : Scan (vs ++ [v]) last (scanS last v x).1 (scanS last v x).2 := by
  unfold scanS
  by_cases h1 : v.1 ≤ last
  · rw [if_pos h1]
    rcases h with ⟨e1, e2, h⟩ | ⟨a1, a2, a3, h⟩
    · refine .inl ⟨e1, e2, fun p hp => ?_⟩
      rcases List.mem_append.1 hp with hp | hp
      · exact h p hp
      · rw [List.mem_singleton.1 hp]; exact h1
    · refine .inr ⟨a1, a2, List.mem_append.2 (.inl a3), fun p hp hl => ?_⟩
      rcases List.mem_append.1 hp with hp | hp
      · exact h p hp hl
      · rw [List.mem_singleton.1 hp] at hl; omega
  · rw [if_neg h1]
    by_cases h2 : x.1 < 0 ∨ v.1 < x.1
    · rw [if_pos h2]
      refine .inr ⟨hv, by omega, by simp, fun p hp hl => ?_⟩
      rcases List.mem_append.1 hp with hp | hp
      · rcases h with ⟨e1, e2, h⟩ | ⟨a1, a2, a3, h⟩
        · have := h p hp; omega
        · rcases h p hp hl with h3 | h3 <;> omega
      · rw [List.mem_singleton.1 hp]; exact .inr ⟨rfl, Int.le_refl _⟩
    · rw [if_neg h2]
      rcases h with ⟨e1, _, _⟩ | ⟨a1, a2, a3, h⟩
      · omega
      · by_cases h3 : v.1 = x.1 ∧ x.2 < v.2
        · rw [if_pos h3]
          refine .inr ⟨a1, a2, by
            have : v = (x.1, v.2) := Prod.ext h3.1 rfl
            rw [← this]; simp, fun p hp hl => ?_⟩
          rcases List.mem_append.1 hp with hp | hp
          · rcases h p hp hl with h4 | h4
            · exact .inl h4
            · exact .inr ⟨h4.1, by show p.2 ≤ v.2; omega⟩
          · rw [List.mem_singleton.1 hp]; exact .inr ⟨h3.1, Int.le_refl _⟩
        · rw [if_neg h3]
          refine .inr ⟨a1, a2, List.mem_append.2 (.inl a3), fun p hp hl => ?_⟩
          rcases List.mem_append.1 hp with hp | hp
          · exact h p hp hl
          · rw [List.mem_singleton.1 hp]
            by_cases h4 : v.1 = x.1
            · exact .inr ⟨h4, by omega⟩
            · exact .inl (by omega)
/-- what is put together, variable by variable -/
structure Upto (l o : List LV) (last : Int) : Prop where
  srt : Srt o
  sub : ∀ q, q ∈ o → q ∈ l ∧ q.1 ≤ last
  cov : ∀ p, p ∈ l → p.1 ≤ last → ∃ q, q ∈ o ∧ q.1 = p.1 ∧ p.2 ≤ q.2
theorem Upto.nil {l : List LV} (hv : ∀ p, p ∈ l → 0 ≤ p.1) : Upto l [] (-1) := ⟨List.Pairwise.nil, fun q hq => (by cases hq), fun p hp h => (by have := hv p hp; omega)⟩
theorem Upto.next {l o : List LV} {last next add : Int} (h : Upto l o last) (hs : Scan l last next add) (hn : 0 ≤ next) : Upto l (o ++ [(next, add)]) next := by
  rcases hs with ⟨e, _, _⟩ | ⟨a1, a2, a3, a4⟩
  · omega
  · refine ⟨List.pairwise_append.2 ⟨h.srt, srt_single _, fun a ha b hb => ?_⟩, fun q hq => ?_, fun p hp hl => ?_⟩
    · rw [List.mem_singleton.1 hb]; have := (h.sub a ha).2; show a.1 < next; omega
    · rcases List.mem_append.1 hq with hq | hq
      · exact ⟨(h.sub q hq).1, by have := (h.sub q hq).2; omega⟩
      · rw [List.mem_singleton.1 hq]; exact ⟨a3, Int.le_refl _⟩
    · by_cases h1 : p.1 ≤ last
      · obtain ⟨q, q1, q2, q3⟩ := h.cov p hp h1
        exact ⟨q, List.mem_append.2 (.inl q1), q2, q3⟩
      · rcases a4 p hp (by omega) with h2 | h2
        · omega
        · exact ⟨(next, add), by simp, h2.1.symm, h2.2⟩
theorem Upto.done {l o : List LV} {last next add : Int} (h : Upto l o last) (hs : Scan l last next add) (hn : next < 0) : o = nfL l := by
  rcases hs with ⟨_, _, h1⟩ | ⟨a1, _, _, _⟩
  · exact (nfL_eq (l := o) ⟨h.srt, fun q hq => (h.sub q hq).1, fun p hp => h.cov p hp (h1 p hp)⟩).symm
  · omega
theorem Upto.len {l o : List LV} {last : Int} (h : Upto l o last) : o.length ≤ l.length := by
  refine Nat.le_trans (nf_len (vs := l.filter fun p => decide (p.1 ≤ last)) ⟨h.srt, fun q hq => ?_, fun p hp => ?_⟩) (List.length_filter_le _ _)
  · rw [List.mem_filter]; exact ⟨(h.sub q hq).1, by simpa using (h.sub q hq).2⟩
  · rw [List.mem_filter] at hp; exact h.cov p hp.1 (by simpa using hp.2)
theorem above_less {l : List LV} {last next add : Int} (hs : Scan l last next add) (hn : 0 ≤ next) : (l.filter fun p => decide (next < p.1)).length < (l.filter fun p => decide (last < p.1)).length := by
  rcases hs with ⟨e, _, _⟩ | ⟨_, a2, a3, _⟩
  · omega
  · have key : ∀ (l : List LV), (l.filter fun p => decide (next < p.1)).length ≤ (l.filter fun p => decide (last < p.1)).length ∧ ((next, add) ∈ l → (l.filter fun p => decide (next < p.1)).length < (l.filter fun p => decide (last < p.1)).length) := by
      intro l
      induction l with
      | nil => exact ⟨Nat.le_refl _, fun h => by cases h⟩
      | cons x t ih =>
        simp only [List.filter_cons]
        by_cases h1 : next < x.1
        · have h2 : last < x.1 := by omega
          rw [decide_eq_true h1, decide_eq_true h2]
          simp only [if_true, List.length_cons]
          refine ⟨by omega, fun hm => ?_⟩
          rcases List.mem_cons.1 hm with e | hm
          · rw [← e] at h1; omega
          · have := ih.2 hm; omega
        · rw [decide_eq_false h1]
          by_cases h2 : last < x.1
          · rw [decide_eq_true h2]
            simp only [if_true, List.length_cons]
            refine ⟨by have := ih.1; simp; omega, fun hm => by have := ih.1; simp; omega⟩
          · rw [decide_eq_false h2]
            refine ⟨by simpa using ih.1, fun hm => ?_⟩
            rcases List.mem_cons.1 hm with e | hm
            · rw [← e] at h2; exact absurd a2 h2
            · simpa using ih.2 hm
    exact (key l).2 a3

set_option maxHeartbeats 4000000 in
theorem refTidy (n : Nat) (h : Hps) (hg : ∀ k, n ≤ k → GoodAt k h) (N : Int) (d : D) (l : List LV) (ad : Nat → D) (S : Sv 2 encV n h d l ad) (hs : l.length < 1000000000000) (hv : ∀ p, p ∈ l → 0 ≤ p.1) (hN : -4611686018427387904 < N ∧ N < 4611686018427387904) : callFn (LX (cF Go.Proofs.Try.prog)) n h [(D.agg [.int .i64 (N), d])] (cF Go.Proofs.Try.prog 71) = .ok (D.agg [.int .i64 (Lev.norm ⟨N, l⟩).n, slD 2 encV (Sl.app (Lev.norm ⟨N, l⟩).v)]) n h := by
  have hgn := hg n (Nat.le_refl _)
  have s1 := S.len
  have s2 := S.idx
  have s3 := S.okD
  have H0 : Hp n h (n + 2) ((n + 1, (Ob.row 2 [.agg [.int .i64 0, .nils]])) :: (n, (Ob.row 2 [.agg [.int .i64 (N), d]])) :: h) := ((Hp.start hg).cons (r := n) (m := n + 1) (Nat.le_refl _) (by omega) (fun k hk => S.box2 (by omega))).box (m := n + 2) (r := n + 1) (by omega) (by omega) rfl
  generalize hR : (D.agg [.int .i64 (Lev.norm ⟨N, l⟩).n, slD 2 encV (Sl.app (Lev.norm ⟨N, l⟩).v)]) = R
  rw [f71_eq]; unfold c71; rw [callFn_eq (by rfl)]
  simp (disch := first | assumption | omega | (simp (disch := first | assumption | omega) only [sB, Nat.reduceAdd, Nat.reduceLT, Nat.reduceLeDiff, Nat.reduceEqDiff, Nat.reduceMul, ↓reduceIte]; done) | fail) only [sA, ↓reduceIte, Nat.reduceLT, Nat.reduceEqDiff, Nat.reduceAdd, Nat.reduceLeDiff, s1, s3]
  generalize hr : LX (cF Go.Proofs.Try.prog) (.loop l71_1) _ _ _ = r
  obtain ⟨x, e2, n2, h2, rfl, rfl, H2, p2, b2, d2, b3, B2, g2, g3⟩ := loop_at hr
    (fun j e n' h' => Hp n h n' h' ∧ n + 6 ≤ n' ∧ getO h' n = (Ob.row 2 [.agg [.int .i64 (N), d]]) ∧ getO h' (n + 1) = (Ob.row 2 [.agg [.int .i64 0, .nils]]) ∧ ∃ (last : Int) (o : List LV) (dd : D), (l.filter fun p => decide (last < p.1)).length = j ∧ -1 ≤ last ∧ Upto l o last ∧ getO h' (n + 5) = (Ob.row 2 [.agg [.int .i64 (zn N o), dd]]) ∧ Bld 2 encV (n + 6) o h' dd ∧
      get (po 1) e = .ptr n 0 0 ∧ get (po 2) e = .ptr (n + 1) 0 0 ∧ get (po 3) e = .ptr (n + 5) 0 0 ∧ get (po 4) e = .int .i64 last)
    (fun x e n' h' => x = .exit 0 ∧ Hp n h n' h' ∧ n + 6 ≤ n' ∧ getO h' (n + 1) = (Ob.row 2 [.agg [.int .i64 0, .nils]]) ∧ ∃ (dd : D), getO h' (n + 5) = (Ob.row 2 [.agg [.int .i64 (zn N (nfL l)), dd]]) ∧ Bld 2 encV (n + 6) (nfL l) h' dd ∧ get (po 2) e = .ptr (n + 1) 0 0 ∧ get (po 3) e = .ptr (n + 5) 0 0)
    (by
      rintro j e n' h' ⟨H, p1, b1, b2, last, o, dd, hj, hla, hU, b3, B, g1, g2, g3, g4⟩
      unfold l71_1
      simp (disch := first | assumption | omega | (simp (disch := first | assumption | omega) only [sB, Nat.reduceAdd, Nat.reduceLT, Nat.reduceLeDiff, Nat.reduceEqDiff, Nat.reduceMul, ↓reduceIte]; done) | fail) only [sA, ↓reduceIte, Nat.reduceLT, Nat.reduceEqDiff, Nat.reduceAdd, Nat.reduceLeDiff]
      generalize hr : LX (cF Go.Proofs.Try.prog) (.loop l71_0) _ _ _ = r
      obtain ⟨x, e2, n2, h2, rfl, rfl, H2, p2, b1, b2, b3, B, g1, g2, g3, g4, x2, hsc, g5, g6⟩ := loop_up hr l.length
        (fun i e n2 h2 => Hp n h n2 h2 ∧ n' ≤ n2 ∧ getO h2 n = (Ob.row 2 [.agg [.int .i64 (N), d]]) ∧ getO h2 (n + 1) = (Ob.row 2 [.agg [.int .i64 0, .nils]]) ∧ getO h2 (n + 5) = (Ob.row 2 [.agg [.int .i64 (zn N o), dd]]) ∧ Bld 2 encV (n + 6) o h2 dd ∧
          get (po 1) e = .ptr n 0 0 ∧ get (po 2) e = .ptr (n + 1) 0 0 ∧ get (po 3) e = .ptr (n + 5) 0 0 ∧ get (po 4) e = .int .i64 last ∧ ∃ x : Int × Int, Scan (l.take i) last x.1 x.2 ∧ get (po 5) e = .int .i64 x.1 ∧ get (po 6) e = .int .i64 x.2 ∧ get (po 7) e = .int .i64 (i : Nat))
        (fun x e n2 h2 => x = .exit 2 ∧ Hp n h n2 h2 ∧ n' ≤ n2 ∧ getO h2 n = (Ob.row 2 [.agg [.int .i64 (N), d]]) ∧ getO h2 (n + 1) = (Ob.row 2 [.agg [.int .i64 0, .nils]]) ∧ getO h2 (n + 5) = (Ob.row 2 [.agg [.int .i64 (zn N o), dd]]) ∧ Bld 2 encV (n + 6) o h2 dd ∧
          get (po 1) e = .ptr n 0 0 ∧ get (po 2) e = .ptr (n + 1) 0 0 ∧ get (po 3) e = .ptr (n + 5) 0 0 ∧ get (po 4) e = .int .i64 last ∧ ∃ x : Int × Int, Scan l last x.1 x.2 ∧ get (po 5) e = .int .i64 x.1 ∧ get (po 6) e = .int .i64 x.2)
        (by
          rintro e n2 h2 ⟨H, p2, b1, b2, b3, B, g1, g2, g3, g4, x, hsc, g5, g6, g7⟩
          rw [List.take_length] at hsc
          unfold l71_0
          simp (disch := first | assumption | omega | (simp (disch := first | assumption | omega) only [sB, Nat.reduceAdd, Nat.reduceLT, Nat.reduceLeDiff, Nat.reduceEqDiff, Nat.reduceMul, ↓reduceIte]; done) | fail) only [sA, ↓reduceIte, Nat.reduceLT, Nat.reduceEqDiff, Nat.reduceAdd, Nat.reduceLeDiff, g1, g7, b1, s1, s3]
          exact ⟨_, _, _, _, rfl, by simp, rfl, H.mono (by omega), by omega, b1, b2, b3, B, by simp (disch := first | assumption | omega | (simp (disch := first | assumption | omega) only [sB, Nat.reduceAdd, Nat.reduceLT, Nat.reduceLeDiff, Nat.reduceEqDiff, Nat.reduceMul, ↓reduceIte]; done) | fail) only [sA, ↓reduceIte, Nat.reduceLT, Nat.reduceEqDiff, Nat.reduceAdd, Nat.reduceLeDiff, g1], by simp (disch := first | assumption | omega | (simp (disch := first | assumption | omega) only [sB, Nat.reduceAdd, Nat.reduceLT, Nat.reduceLeDiff, Nat.reduceEqDiff, Nat.reduceMul, ↓reduceIte]; done) | fail) only [sA, ↓reduceIte, Nat.reduceLT, Nat.reduceEqDiff, Nat.reduceAdd, Nat.reduceLeDiff, g2], by simp (disch := first | assumption | omega | (simp (disch := first | assumption | omega) only [sB, Nat.reduceAdd, Nat.reduceLT, Nat.reduceLeDiff, Nat.reduceEqDiff, Nat.reduceMul, ↓reduceIte]; done) | fail) only [sA, ↓reduceIte, Nat.reduceLT, Nat.reduceEqDiff, Nat.reduceAdd, Nat.reduceLeDiff, g3], by simp (disch := first | assumption | omega | (simp (disch := first | assumption | omega) only [sB, Nat.reduceAdd, Nat.reduceLT, Nat.reduceLeDiff, Nat.reduceEqDiff, Nat.reduceMul, ↓reduceIte]; done) | fail) only [sA, ↓reduceIte, Nat.reduceLT, Nat.reduceEqDiff, Nat.reduceAdd, Nat.reduceLeDiff, g4], x, hsc, by simp (disch := first | assumption | omega | (simp (disch := first | assumption | omega) only [sB, Nat.reduceAdd, Nat.reduceLT, Nat.reduceLeDiff, Nat.reduceEqDiff, Nat.reduceMul, ↓reduceIte]; done) | fail) only [sA, ↓reduceIte, Nat.reduceLT, Nat.reduceEqDiff, Nat.reduceAdd, Nat.reduceLeDiff, g5], by simp (disch := first | assumption | omega | (simp (disch := first | assumption | omega) only [sB, Nat.reduceAdd, Nat.reduceLT, Nat.reduceLeDiff, Nat.reduceEqDiff, Nat.reduceMul, ↓reduceIte]; done) | fail) only [sA, ↓reduceIte, Nat.reduceLT, Nat.reduceEqDiff, Nat.reduceAdd, Nat.reduceLeDiff, g6]⟩)
        (by
          rintro i e n2 h2 hi ⟨H, p2, b1, b2, b3, B, g1, g2, g3, g4, x, hsc, g5, g6, g7⟩
          have H1 : ∀ q, q = n2 + 10 → Hp n h (q + 1) ((q, .row 2 [encV l[i]]) :: h2) := fun q hq => H.box (by omega) (by omega) rfl
          have s4 := S.at H
          have hvi := hv l[i] (List.getElem_mem hi)
          have hsn := scan_snoc hsc hvi
          rw [← take_snoc hi] at hsn
          have hnn := H.le
          unfold l71_0
          unfold scanS at hsn
          by_cases a1 : l[i].1 ≤ last
          · rw [if_pos a1] at hsn
            simp (disch := first | assumption | omega | (simp (disch := first | assumption | omega) only [sB, Nat.reduceAdd, Nat.reduceLT, Nat.reduceLeDiff, Nat.reduceEqDiff, Nat.reduceMul, ↓reduceIte]; done) | fail) only [sA, ↓reduceIte, Nat.reduceLT, Nat.reduceEqDiff, Nat.reduceAdd, Nat.reduceLeDiff, g1, g2, g3, g4, g5, g6, g7, b1, s1, s2, s3, s4, encV]
            exact ⟨_, _, _, _, rfl, .inl ⟨rfl, (H1 _ rfl).mono (by omega), by omega, getO_keep b1 (by omega), getO_keep b2 (by omega), getO_keep b3 (by omega), B.cons (H.good n2 (Nat.le_refl _)) (by omega), by simp (disch := first | assumption | omega | (simp (disch := first | assumption | omega) only [sB, Nat.reduceAdd, Nat.reduceLT, Nat.reduceLeDiff, Nat.reduceEqDiff, Nat.reduceMul, ↓reduceIte]; done) | fail) only [sA, ↓reduceIte, Nat.reduceLT, Nat.reduceEqDiff, Nat.reduceAdd, Nat.reduceLeDiff, g1], by simp (disch := first | assumption | omega | (simp (disch := first | assumption | omega) only [sB, Nat.reduceAdd, Nat.reduceLT, Nat.reduceLeDiff, Nat.reduceEqDiff, Nat.reduceMul, ↓reduceIte]; done) | fail) only [sA, ↓reduceIte, Nat.reduceLT, Nat.reduceEqDiff, Nat.reduceAdd, Nat.reduceLeDiff, g2], by simp (disch := first | assumption | omega | (simp (disch := first | assumption | omega) only [sB, Nat.reduceAdd, Nat.reduceLT, Nat.reduceLeDiff, Nat.reduceEqDiff, Nat.reduceMul, ↓reduceIte]; done) | fail) only [sA, ↓reduceIte, Nat.reduceLT, Nat.reduceEqDiff, Nat.reduceAdd, Nat.reduceLeDiff, g3], by simp (disch := first | assumption | omega | (simp (disch := first | assumption | omega) only [sB, Nat.reduceAdd, Nat.reduceLT, Nat.reduceLeDiff, Nat.reduceEqDiff, Nat.reduceMul, ↓reduceIte]; done) | fail) only [sA, ↓reduceIte, Nat.reduceLT, Nat.reduceEqDiff, Nat.reduceAdd, Nat.reduceLeDiff, g4], x, hsn, by simp (disch := first | assumption | omega | (simp (disch := first | assumption | omega) only [sB, Nat.reduceAdd, Nat.reduceLT, Nat.reduceLeDiff, Nat.reduceEqDiff, Nat.reduceMul, ↓reduceIte]; done) | fail) only [sA, ↓reduceIte, Nat.reduceLT, Nat.reduceEqDiff, Nat.reduceAdd, Nat.reduceLeDiff, g5], by simp (disch := first | assumption | omega | (simp (disch := first | assumption | omega) only [sB, Nat.reduceAdd, Nat.reduceLT, Nat.reduceLeDiff, Nat.reduceEqDiff, Nat.reduceMul, ↓reduceIte]; done) | fail) only [sA, ↓reduceIte, Nat.reduceLT, Nat.reduceEqDiff, Nat.reduceAdd, Nat.reduceLeDiff, g6], by simp (disch := first | assumption | omega | (simp (disch := first | assumption | omega) only [sB, Nat.reduceAdd, Nat.reduceLT, Nat.reduceLeDiff, Nat.reduceEqDiff, Nat.reduceMul, ↓reduceIte]; done) | fail) only [sA, ↓reduceIte, Nat.reduceLT, Nat.reduceEqDiff, Nat.reduceAdd, Nat.reduceLeDiff]⟩⟩
          · rw [if_neg a1] at hsn
            by_cases a2 : x.1 < 0 ∨ l[i].1 < x.1
            · rw [if_pos a2] at hsn
              by_cases a3 : x.1 < 0
              · simp (disch := first | assumption | omega | (simp (disch := first | assumption | omega) only [sB, Nat.reduceAdd, Nat.reduceLT, Nat.reduceLeDiff, Nat.reduceEqDiff, Nat.reduceMul, ↓reduceIte]; done) | fail) only [sA, ↓reduceIte, Nat.reduceLT, Nat.reduceEqDiff, Nat.reduceAdd, Nat.reduceLeDiff, g1, g2, g3, g4, g5, g6, g7, b1, s1, s2, s3, s4, encV]
                exact ⟨_, _, _, _, rfl, .inl ⟨rfl, (H1 _ rfl).mono (by omega), by omega, getO_keep b1 (by omega), getO_keep b2 (by omega), getO_keep b3 (by omega), B.cons (H.good n2 (Nat.le_refl _)) (by omega), by simp (disch := first | assumption | omega | (simp (disch := first | assumption | omega) only [sB, Nat.reduceAdd, Nat.reduceLT, Nat.reduceLeDiff, Nat.reduceEqDiff, Nat.reduceMul, ↓reduceIte]; done) | fail) only [sA, ↓reduceIte, Nat.reduceLT, Nat.reduceEqDiff, Nat.reduceAdd, Nat.reduceLeDiff, g1], by simp (disch := first | assumption | omega | (simp (disch := first | assumption | omega) only [sB, Nat.reduceAdd, Nat.reduceLT, Nat.reduceLeDiff, Nat.reduceEqDiff, Nat.reduceMul, ↓reduceIte]; done) | fail) only [sA, ↓reduceIte, Nat.reduceLT, Nat.reduceEqDiff, Nat.reduceAdd, Nat.reduceLeDiff, g2], by simp (disch := first | assumption | omega | (simp (disch := first | assumption | omega) only [sB, Nat.reduceAdd, Nat.reduceLT, Nat.reduceLeDiff, Nat.reduceEqDiff, Nat.reduceMul, ↓reduceIte]; done) | fail) only [sA, ↓reduceIte, Nat.reduceLT, Nat.reduceEqDiff, Nat.reduceAdd, Nat.reduceLeDiff, g3], by simp (disch := first | assumption | omega | (simp (disch := first | assumption | omega) only [sB, Nat.reduceAdd, Nat.reduceLT, Nat.reduceLeDiff, Nat.reduceEqDiff, Nat.reduceMul, ↓reduceIte]; done) | fail) only [sA, ↓reduceIte, Nat.reduceLT, Nat.reduceEqDiff, Nat.reduceAdd, Nat.reduceLeDiff, g4], _, hsn, by simp (disch := first | assumption | omega | (simp (disch := first | assumption | omega) only [sB, Nat.reduceAdd, Nat.reduceLT, Nat.reduceLeDiff, Nat.reduceEqDiff, Nat.reduceMul, ↓reduceIte]; done) | fail) only [sA, ↓reduceIte, Nat.reduceLT, Nat.reduceEqDiff, Nat.reduceAdd, Nat.reduceLeDiff], by simp (disch := first | assumption | omega | (simp (disch := first | assumption | omega) only [sB, Nat.reduceAdd, Nat.reduceLT, Nat.reduceLeDiff, Nat.reduceEqDiff, Nat.reduceMul, ↓reduceIte]; done) | fail) only [sA, ↓reduceIte, Nat.reduceLT, Nat.reduceEqDiff, Nat.reduceAdd, Nat.reduceLeDiff], by simp (disch := first | assumption | omega | (simp (disch := first | assumption | omega) only [sB, Nat.reduceAdd, Nat.reduceLT, Nat.reduceLeDiff, Nat.reduceEqDiff, Nat.reduceMul, ↓reduceIte]; done) | fail) only [sA, ↓reduceIte, Nat.reduceLT, Nat.reduceEqDiff, Nat.reduceAdd, Nat.reduceLeDiff]⟩⟩
              · have a4 : l[i].1 < x.1 := by omega
                simp (disch := first | assumption | omega | (simp (disch := first | assumption | omega) only [sB, Nat.reduceAdd, Nat.reduceLT, Nat.reduceLeDiff, Nat.reduceEqDiff, Nat.reduceMul, ↓reduceIte]; done) | fail) only [sA, ↓reduceIte, Nat.reduceLT, Nat.reduceEqDiff, Nat.reduceAdd, Nat.reduceLeDiff, g1, g2, g3, g4, g5, g6, g7, b1, s1, s2, s3, s4, encV]
                exact ⟨_, _, _, _, rfl, .inl ⟨rfl, (H1 _ rfl).mono (by omega), by omega, getO_keep b1 (by omega), getO_keep b2 (by omega), getO_keep b3 (by omega), B.cons (H.good n2 (Nat.le_refl _)) (by omega), by simp (disch := first | assumption | omega | (simp (disch := first | assumption | omega) only [sB, Nat.reduceAdd, Nat.reduceLT, Nat.reduceLeDiff, Nat.reduceEqDiff, Nat.reduceMul, ↓reduceIte]; done) | fail) only [sA, ↓reduceIte, Nat.reduceLT, Nat.reduceEqDiff, Nat.reduceAdd, Nat.reduceLeDiff, g1], by simp (disch := first | assumption | omega | (simp (disch := first | assumption | omega) only [sB, Nat.reduceAdd, Nat.reduceLT, Nat.reduceLeDiff, Nat.reduceEqDiff, Nat.reduceMul, ↓reduceIte]; done) | fail) only [sA, ↓reduceIte, Nat.reduceLT, Nat.reduceEqDiff, Nat.reduceAdd, Nat.reduceLeDiff, g2], by simp (disch := first | assumption | omega | (simp (disch := first | assumption | omega) only [sB, Nat.reduceAdd, Nat.reduceLT, Nat.reduceLeDiff, Nat.reduceEqDiff, Nat.reduceMul, ↓reduceIte]; done) | fail) only [sA, ↓reduceIte, Nat.reduceLT, Nat.reduceEqDiff, Nat.reduceAdd, Nat.reduceLeDiff, g3], by simp (disch := first | assumption | omega | (simp (disch := first | assumption | omega) only [sB, Nat.reduceAdd, Nat.reduceLT, Nat.reduceLeDiff, Nat.reduceEqDiff, Nat.reduceMul, ↓reduceIte]; done) | fail) only [sA, ↓reduceIte, Nat.reduceLT, Nat.reduceEqDiff, Nat.reduceAdd, Nat.reduceLeDiff, g4], _, hsn, by simp (disch := first | assumption | omega | (simp (disch := first | assumption | omega) only [sB, Nat.reduceAdd, Nat.reduceLT, Nat.reduceLeDiff, Nat.reduceEqDiff, Nat.reduceMul, ↓reduceIte]; done) | fail) only [sA, ↓reduceIte, Nat.reduceLT, Nat.reduceEqDiff, Nat.reduceAdd, Nat.reduceLeDiff], by simp (disch := first | assumption | omega | (simp (disch := first | assumption | omega) only [sB, Nat.reduceAdd, Nat.reduceLT, Nat.reduceLeDiff, Nat.reduceEqDiff, Nat.reduceMul, ↓reduceIte]; done) | fail) only [sA, ↓reduceIte, Nat.reduceLT, Nat.reduceEqDiff, Nat.reduceAdd, Nat.reduceLeDiff], by simp (disch := first | assumption | omega | (simp (disch := first | assumption | omega) only [sB, Nat.reduceAdd, Nat.reduceLT, Nat.reduceLeDiff, Nat.reduceEqDiff, Nat.reduceMul, ↓reduceIte]; done) | fail) only [sA, ↓reduceIte, Nat.reduceLT, Nat.reduceEqDiff, Nat.reduceAdd, Nat.reduceLeDiff]⟩⟩
            · rw [if_neg a2] at hsn
              by_cases a5 : l[i].1 = x.1
              · by_cases a6 : x.2 < l[i].2
                · rw [if_pos ⟨a5, a6⟩] at hsn
                  simp (disch := first | assumption | omega | (simp (disch := first | assumption | omega) only [sB, Nat.reduceAdd, Nat.reduceLT, Nat.reduceLeDiff, Nat.reduceEqDiff, Nat.reduceMul, ↓reduceIte]; done) | fail) only [sA, ↓reduceIte, Nat.reduceLT, Nat.reduceEqDiff, Nat.reduceAdd, Nat.reduceLeDiff, g1, g2, g3, g4, g5, g6, g7, b1, s1, s2, s3, s4, encV]
                  exact ⟨_, _, _, _, rfl, .inl ⟨rfl, (H1 _ rfl).mono (by omega), by omega, getO_keep b1 (by omega), getO_keep b2 (by omega), getO_keep b3 (by omega), B.cons (H.good n2 (Nat.le_refl _)) (by omega), by simp (disch := first | assumption | omega | (simp (disch := first | assumption | omega) only [sB, Nat.reduceAdd, Nat.reduceLT, Nat.reduceLeDiff, Nat.reduceEqDiff, Nat.reduceMul, ↓reduceIte]; done) | fail) only [sA, ↓reduceIte, Nat.reduceLT, Nat.reduceEqDiff, Nat.reduceAdd, Nat.reduceLeDiff, g1], by simp (disch := first | assumption | omega | (simp (disch := first | assumption | omega) only [sB, Nat.reduceAdd, Nat.reduceLT, Nat.reduceLeDiff, Nat.reduceEqDiff, Nat.reduceMul, ↓reduceIte]; done) | fail) only [sA, ↓reduceIte, Nat.reduceLT, Nat.reduceEqDiff, Nat.reduceAdd, Nat.reduceLeDiff, g2], by simp (disch := first | assumption | omega | (simp (disch := first | assumption | omega) only [sB, Nat.reduceAdd, Nat.reduceLT, Nat.reduceLeDiff, Nat.reduceEqDiff, Nat.reduceMul, ↓reduceIte]; done) | fail) only [sA, ↓reduceIte, Nat.reduceLT, Nat.reduceEqDiff, Nat.reduceAdd, Nat.reduceLeDiff, g3], by simp (disch := first | assumption | omega | (simp (disch := first | assumption | omega) only [sB, Nat.reduceAdd, Nat.reduceLT, Nat.reduceLeDiff, Nat.reduceEqDiff, Nat.reduceMul, ↓reduceIte]; done) | fail) only [sA, ↓reduceIte, Nat.reduceLT, Nat.reduceEqDiff, Nat.reduceAdd, Nat.reduceLeDiff, g4], _, hsn, by simp (disch := first | assumption | omega | (simp (disch := first | assumption | omega) only [sB, Nat.reduceAdd, Nat.reduceLT, Nat.reduceLeDiff, Nat.reduceEqDiff, Nat.reduceMul, ↓reduceIte]; done) | fail) only [sA, ↓reduceIte, Nat.reduceLT, Nat.reduceEqDiff, Nat.reduceAdd, Nat.reduceLeDiff, g5], by simp (disch := first | assumption | omega | (simp (disch := first | assumption | omega) only [sB, Nat.reduceAdd, Nat.reduceLT, Nat.reduceLeDiff, Nat.reduceEqDiff, Nat.reduceMul, ↓reduceIte]; done) | fail) only [sA, ↓reduceIte, Nat.reduceLT, Nat.reduceEqDiff, Nat.reduceAdd, Nat.reduceLeDiff], by simp (disch := first | assumption | omega | (simp (disch := first | assumption | omega) only [sB, Nat.reduceAdd, Nat.reduceLT, Nat.reduceLeDiff, Nat.reduceEqDiff, Nat.reduceMul, ↓reduceIte]; done) | fail) only [sA, ↓reduceIte, Nat.reduceLT, Nat.reduceEqDiff, Nat.reduceAdd, Nat.reduceLeDiff]⟩⟩
                · rw [if_neg (fun h => a6 h.2)] at hsn
                  simp (disch := first | assumption | omega | (simp (disch := first | assumption | omega) only [sB, Nat.reduceAdd, Nat.reduceLT, Nat.reduceLeDiff, Nat.reduceEqDiff, Nat.reduceMul, ↓reduceIte]; done) | fail) only [sA, ↓reduceIte, Nat.reduceLT, Nat.reduceEqDiff, Nat.reduceAdd, Nat.reduceLeDiff, g1, g2, g3, g4, g5, g6, g7, b1, s1, s2, s3, s4, encV]
                  exact ⟨_, _, _, _, rfl, .inl ⟨rfl, (H1 _ rfl).mono (by omega), by omega, getO_keep b1 (by omega), getO_keep b2 (by omega), getO_keep b3 (by omega), B.cons (H.good n2 (Nat.le_refl _)) (by omega), by simp (disch := first | assumption | omega | (simp (disch := first | assumption | omega) only [sB, Nat.reduceAdd, Nat.reduceLT, Nat.reduceLeDiff, Nat.reduceEqDiff, Nat.reduceMul, ↓reduceIte]; done) | fail) only [sA, ↓reduceIte, Nat.reduceLT, Nat.reduceEqDiff, Nat.reduceAdd, Nat.reduceLeDiff, g1], by simp (disch := first | assumption | omega | (simp (disch := first | assumption | omega) only [sB, Nat.reduceAdd, Nat.reduceLT, Nat.reduceLeDiff, Nat.reduceEqDiff, Nat.reduceMul, ↓reduceIte]; done) | fail) only [sA, ↓reduceIte, Nat.reduceLT, Nat.reduceEqDiff, Nat.reduceAdd, Nat.reduceLeDiff, g2], by simp (disch := first | assumption | omega | (simp (disch := first | assumption | omega) only [sB, Nat.reduceAdd, Nat.reduceLT, Nat.reduceLeDiff, Nat.reduceEqDiff, Nat.reduceMul, ↓reduceIte]; done) | fail) only [sA, ↓reduceIte, Nat.reduceLT, Nat.reduceEqDiff, Nat.reduceAdd, Nat.reduceLeDiff, g3], by simp (disch := first | assumption | omega | (simp (disch := first | assumption | omega) only [sB, Nat.reduceAdd, Nat.reduceLT, Nat.reduceLeDiff, Nat.reduceEqDiff, Nat.reduceMul, ↓reduceIte]; done) | fail) only [sA, ↓reduceIte, Nat.reduceLT, Nat.reduceEqDiff, Nat.reduceAdd, Nat.reduceLeDiff, g4], _, hsn, by simp (disch := first | assumption | omega | (simp (disch := first | assumption | omega) only [sB, Nat.reduceAdd, Nat.reduceLT, Nat.reduceLeDiff, Nat.reduceEqDiff, Nat.reduceMul, ↓reduceIte]; done) | fail) only [sA, ↓reduceIte, Nat.reduceLT, Nat.reduceEqDiff, Nat.reduceAdd, Nat.reduceLeDiff, g5], by simp (disch := first | assumption | omega | (simp (disch := first | assumption | omega) only [sB, Nat.reduceAdd, Nat.reduceLT, Nat.reduceLeDiff, Nat.reduceEqDiff, Nat.reduceMul, ↓reduceIte]; done) | fail) only [sA, ↓reduceIte, Nat.reduceLT, Nat.reduceEqDiff, Nat.reduceAdd, Nat.reduceLeDiff, g6], by simp (disch := first | assumption | omega | (simp (disch := first | assumption | omega) only [sB, Nat.reduceAdd, Nat.reduceLT, Nat.reduceLeDiff, Nat.reduceEqDiff, Nat.reduceMul, ↓reduceIte]; done) | fail) only [sA, ↓reduceIte, Nat.reduceLT, Nat.reduceEqDiff, Nat.reduceAdd, Nat.reduceLeDiff]⟩⟩
              · rw [if_neg (fun h => a5 h.1)] at hsn
                simp (disch := first | assumption | omega | (simp (disch := first | assumption | omega) only [sB, Nat.reduceAdd, Nat.reduceLT, Nat.reduceLeDiff, Nat.reduceEqDiff, Nat.reduceMul, ↓reduceIte]; done) | fail) only [sA, ↓reduceIte, Nat.reduceLT, Nat.reduceEqDiff, Nat.reduceAdd, Nat.reduceLeDiff, g1, g2, g3, g4, g5, g6, g7, b1, s1, s2, s3, s4, encV]
                exact ⟨_, _, _, _, rfl, .inl ⟨rfl, (H1 _ rfl).mono (by omega), by omega, getO_keep b1 (by omega), getO_keep b2 (by omega), getO_keep b3 (by omega), B.cons (H.good n2 (Nat.le_refl _)) (by omega), by simp (disch := first | assumption | omega | (simp (disch := first | assumption | omega) only [sB, Nat.reduceAdd, Nat.reduceLT, Nat.reduceLeDiff, Nat.reduceEqDiff, Nat.reduceMul, ↓reduceIte]; done) | fail) only [sA, ↓reduceIte, Nat.reduceLT, Nat.reduceEqDiff, Nat.reduceAdd, Nat.reduceLeDiff, g1], by simp (disch := first | assumption | omega | (simp (disch := first | assumption | omega) only [sB, Nat.reduceAdd, Nat.reduceLT, Nat.reduceLeDiff, Nat.reduceEqDiff, Nat.reduceMul, ↓reduceIte]; done) | fail) only [sA, ↓reduceIte, Nat.reduceLT, Nat.reduceEqDiff, Nat.reduceAdd, Nat.reduceLeDiff, g2], by simp (disch := first | assumption | omega | (simp (disch := first | assumption | omega) only [sB, Nat.reduceAdd, Nat.reduceLT, Nat.reduceLeDiff, Nat.reduceEqDiff, Nat.reduceMul, ↓reduceIte]; done) | fail) only [sA, ↓reduceIte, Nat.reduceLT, Nat.reduceEqDiff, Nat.reduceAdd, Nat.reduceLeDiff, g3], by simp (disch := first | assumption | omega | (simp (disch := first | assumption | omega) only [sB, Nat.reduceAdd, Nat.reduceLT, Nat.reduceLeDiff, Nat.reduceEqDiff, Nat.reduceMul, ↓reduceIte]; done) | fail) only [sA, ↓reduceIte, Nat.reduceLT, Nat.reduceEqDiff, Nat.reduceAdd, Nat.reduceLeDiff, g4], _, hsn, by simp (disch := first | assumption | omega | (simp (disch := first | assumption | omega) only [sB, Nat.reduceAdd, Nat.reduceLT, Nat.reduceLeDiff, Nat.reduceEqDiff, Nat.reduceMul, ↓reduceIte]; done) | fail) only [sA, ↓reduceIte, Nat.reduceLT, Nat.reduceEqDiff, Nat.reduceAdd, Nat.reduceLeDiff, g5], by simp (disch := first | assumption | omega | (simp (disch := first | assumption | omega) only [sB, Nat.reduceAdd, Nat.reduceLT, Nat.reduceLeDiff, Nat.reduceEqDiff, Nat.reduceMul, ↓reduceIte]; done) | fail) only [sA, ↓reduceIte, Nat.reduceLT, Nat.reduceEqDiff, Nat.reduceAdd, Nat.reduceLeDiff, g6], by simp (disch := first | assumption | omega | (simp (disch := first | assumption | omega) only [sB, Nat.reduceAdd, Nat.reduceLT, Nat.reduceLeDiff, Nat.reduceEqDiff, Nat.reduceMul, ↓reduceIte]; done) | fail) only [sA, ↓reduceIte, Nat.reduceLT, Nat.reduceEqDiff, Nat.reduceAdd, Nat.reduceLeDiff]⟩⟩)
        ⟨H.mono (by omega), by omega, b1, b2, b3, B, by simp (disch := first | assumption | omega | (simp (disch := first | assumption | omega) only [sB, Nat.reduceAdd, Nat.reduceLT, Nat.reduceLeDiff, Nat.reduceEqDiff, Nat.reduceMul, ↓reduceIte]; done) | fail) only [sA, ↓reduceIte, Nat.reduceLT, Nat.reduceEqDiff, Nat.reduceAdd, Nat.reduceLeDiff, g1], by simp (disch := first | assumption | omega | (simp (disch := first | assumption | omega) only [sB, Nat.reduceAdd, Nat.reduceLT, Nat.reduceLeDiff, Nat.reduceEqDiff, Nat.reduceMul, ↓reduceIte]; done) | fail) only [sA, ↓reduceIte, Nat.reduceLT, Nat.reduceEqDiff, Nat.reduceAdd, Nat.reduceLeDiff, g2], by simp (disch := first | assumption | omega | (simp (disch := first | assumption | omega) only [sB, Nat.reduceAdd, Nat.reduceLT, Nat.reduceLeDiff, Nat.reduceEqDiff, Nat.reduceMul, ↓reduceIte]; done) | fail) only [sA, ↓reduceIte, Nat.reduceLT, Nat.reduceEqDiff, Nat.reduceAdd, Nat.reduceLeDiff, g3], by simp (disch := first | assumption | omega | (simp (disch := first | assumption | omega) only [sB, Nat.reduceAdd, Nat.reduceLT, Nat.reduceLeDiff, Nat.reduceEqDiff, Nat.reduceMul, ↓reduceIte]; done) | fail) only [sA, ↓reduceIte, Nat.reduceLT, Nat.reduceEqDiff, Nat.reduceAdd, Nat.reduceLeDiff, g4], (-1, 0), scan_nil last, by simp (disch := first | assumption | omega | (simp (disch := first | assumption | omega) only [sB, Nat.reduceAdd, Nat.reduceLT, Nat.reduceLeDiff, Nat.reduceEqDiff, Nat.reduceMul, ↓reduceIte]; done) | fail) only [sA, ↓reduceIte, Nat.reduceLT, Nat.reduceEqDiff, Nat.reduceAdd, Nat.reduceLeDiff], by simp (disch := first | assumption | omega | (simp (disch := first | assumption | omega) only [sB, Nat.reduceAdd, Nat.reduceLT, Nat.reduceLeDiff, Nat.reduceEqDiff, Nat.reduceMul, ↓reduceIte]; done) | fail) only [sA, ↓reduceIte, Nat.reduceLT, Nat.reduceEqDiff, Nat.reduceAdd, Nat.reduceLeDiff], by simp (disch := first | assumption | omega | (simp (disch := first | assumption | omega) only [sB, Nat.reduceAdd, Nat.reduceLT, Nat.reduceLeDiff, Nat.reduceEqDiff, Nat.reduceMul, ↓reduceIte]; done) | fail) only [sA, ↓reduceIte, Nat.reduceLT, Nat.reduceEqDiff, Nat.reduceAdd, Nat.reduceLeDiff]⟩
      by_cases hneg : x2.1 < 0
      · have hdone := hU.done hsc hneg
        subst hdone
        simp (disch := first | assumption | omega | (simp (disch := first | assumption | omega) only [sB, Nat.reduceAdd, Nat.reduceLT, Nat.reduceLeDiff, Nat.reduceEqDiff, Nat.reduceMul, ↓reduceIte]; done) | fail) only [sA, ↓reduceIte, Nat.reduceLT, Nat.reduceEqDiff, Nat.reduceAdd, Nat.reduceLeDiff, g5]
        exact ⟨_, _, _, _, rfl, .inr ⟨by simp, rfl, H2.mono (by omega), by omega, b2, dd, b3, B, by simp (disch := first | assumption | omega | (simp (disch := first | assumption | omega) only [sB, Nat.reduceAdd, Nat.reduceLT, Nat.reduceLeDiff, Nat.reduceEqDiff, Nat.reduceMul, ↓reduceIte]; done) | fail) only [sA, ↓reduceIte, Nat.reduceLT, Nat.reduceEqDiff, Nat.reduceAdd, Nat.reduceLeDiff, g2], by simp (disch := first | assumption | omega | (simp (disch := first | assumption | omega) only [sB, Nat.reduceAdd, Nat.reduceLT, Nat.reduceLeDiff, Nat.reduceEqDiff, Nat.reduceMul, ↓reduceIte]; done) | fail) only [sA, ↓reduceIte, Nat.reduceLT, Nat.reduceEqDiff, Nat.reduceAdd, Nat.reduceLeDiff, g3]⟩⟩
      · have hn0 : 0 ≤ x2.1 := by omega
        have hU2 := hU.next hsc hn0
        have hab := above_less hsc hn0
        have hol := hU.len
        have hx2 : ((x2.1, x2.2) : LV) = x2 := rfl
        obtain ⟨D', H', A⟩ := app_bldx (b := 16) B H2 (by omega) (by omega) lowV [((x2.1, x2.2) : LV)] (by simp; omega)
        have A1 := fun m hm => (A m hm).1
        simp only [encV, List.map_cons, List.map_nil] at A1
        obtain ⟨_, A2, A3, A4, _⟩ := A (n2 + 8) (by omega)
        have hd1 := B.okD
        have hd2 := A2.one
        have hgm : getO (H' (n2 + 8)) (n + 5) = (Ob.row 2 [.agg [.int .i64 (zn N o), dd]]) := (A4 _ (by omega)).trans b3
        have hgn2 : getO (H' (n2 + 8)) n = (Ob.row 2 [.agg [.int .i64 (N), d]]) := (A4 _ (by omega)).trans b1
        have hgS : ∀ _ : Nat, getO (setO (H' (n2 + 8)) (n + 5) (Ob.row 2 [.agg [.int .i64 (zn N o), D' (n2 + 8)]])) n = (Ob.row 2 [.agg [.int .i64 (N), d]]) := fun _ => getO_set2 hgm hgn2 (by omega)
        have hgT : getO (setO (H' (n2 + 8)) (n + 5) (Ob.row 2 [.agg [.int .i64 (zn N o), D' (n2 + 8)]])) (n + 5) = (Ob.row 2 [.agg [.int .i64 (zn N o), D' (n2 + 8)]]) := getO_set1 hgm
        have HS : Hp n h (n2 + 9) (setO (H' (n2 + 8)) (n + 5) (Ob.row 2 [.agg [.int .i64 (zn N o), D' (n2 + 8)]])) := A3.set (r := n + 5) (by omega) (fun q hq => A2.box2 (A3.good q hq))
        have AS := A2.set (x := (Ob.row 2 [.agg [.int .i64 (zn N o), D' (n2 + 8)]])) hgm (show n + 5 < n + 6 by omega)
        by_cases hc : N ≤ x2.2
        · have hz : zn N (o ++ [(x2.1, x2.2)]) = 0 := by
            unfold zn
            rw [List.any_append]
            simp [hc]
          simp (disch := first | assumption | omega | (simp (disch := first | assumption | omega) only [sB, Nat.reduceAdd, Nat.reduceLT, Nat.reduceLeDiff, Nat.reduceEqDiff, Nat.reduceMul, ↓reduceIte, hd2]; done) | fail) only [sA, ↓reduceIte, Nat.reduceLT, Nat.reduceEqDiff, Nat.reduceAdd, Nat.reduceLeDiff, g1, g2, g3, g5, g6, b3, s3, hd1, A1, hgm, hgS 0, hgT, hd2]
          exact ⟨_, _, _, _, rfl, .inl ⟨rfl, _, hj ▸ hab, (HS.set (r := n + 5) (by omega) (fun q hq => AS.box2 (HS.good q hq))).mono (by omega), by omega, getO_set2 hgT (hgS 0) (by omega), getO_set2 hgT (getO_set2 hgm ((A4 _ (by omega)).trans b2) (by omega)) (by omega), x2.1, _, D' (n2 + 8), rfl, by omega, hU2, by rw [hz]; exact getO_set1 hgT, AS.set hgT (by omega), by simp (disch := first | assumption | omega | (simp (disch := first | assumption | omega) only [sB, Nat.reduceAdd, Nat.reduceLT, Nat.reduceLeDiff, Nat.reduceEqDiff, Nat.reduceMul, ↓reduceIte]; done) | fail) only [sA, ↓reduceIte, Nat.reduceLT, Nat.reduceEqDiff, Nat.reduceAdd, Nat.reduceLeDiff, g1], by simp (disch := first | assumption | omega | (simp (disch := first | assumption | omega) only [sB, Nat.reduceAdd, Nat.reduceLT, Nat.reduceLeDiff, Nat.reduceEqDiff, Nat.reduceMul, ↓reduceIte]; done) | fail) only [sA, ↓reduceIte, Nat.reduceLT, Nat.reduceEqDiff, Nat.reduceAdd, Nat.reduceLeDiff, g2], by simp (disch := first | assumption | omega | (simp (disch := first | assumption | omega) only [sB, Nat.reduceAdd, Nat.reduceLT, Nat.reduceLeDiff, Nat.reduceEqDiff, Nat.reduceMul, ↓reduceIte]; done) | fail) only [sA, ↓reduceIte, Nat.reduceLT, Nat.reduceEqDiff, Nat.reduceAdd, Nat.reduceLeDiff, g3], by simp (disch := first | assumption | omega | (simp (disch := first | assumption | omega) only [sB, Nat.reduceAdd, Nat.reduceLT, Nat.reduceLeDiff, Nat.reduceEqDiff, Nat.reduceMul, ↓reduceIte]; done) | fail) only [sA, ↓reduceIte, Nat.reduceLT, Nat.reduceEqDiff, Nat.reduceAdd, Nat.reduceLeDiff]⟩⟩
        · have hz : zn N (o ++ [(x2.1, x2.2)]) = zn N o := by
            unfold zn
            rw [List.any_append]
            have : ([((x2.1, x2.2) : LV)].any fun p => decide (N ≤ p.2)) = false := by simp; omega
            rw [this, Bool.or_false]
          simp (disch := first | assumption | omega | (simp (disch := first | assumption | omega) only [sB, Nat.reduceAdd, Nat.reduceLT, Nat.reduceLeDiff, Nat.reduceEqDiff, Nat.reduceMul, ↓reduceIte, hd2]; done) | fail) only [sA, ↓reduceIte, Nat.reduceLT, Nat.reduceEqDiff, Nat.reduceAdd, Nat.reduceLeDiff, g1, g2, g3, g5, g6, b3, s3, hd1, A1, hgm, hgS 0, hgT, hd2]
          exact ⟨_, _, _, _, rfl, .inl ⟨rfl, _, hj ▸ hab, HS.mono (by omega), by omega, hgS 0, getO_set2 hgm ((A4 _ (by omega)).trans b2) (by omega), x2.1, _, D' (n2 + 8), rfl, by omega, hU2, by rw [hz]; exact hgT, AS, by simp (disch := first | assumption | omega | (simp (disch := first | assumption | omega) only [sB, Nat.reduceAdd, Nat.reduceLT, Nat.reduceLeDiff, Nat.reduceEqDiff, Nat.reduceMul, ↓reduceIte]; done) | fail) only [sA, ↓reduceIte, Nat.reduceLT, Nat.reduceEqDiff, Nat.reduceAdd, Nat.reduceLeDiff, g1], by simp (disch := first | assumption | omega | (simp (disch := first | assumption | omega) only [sB, Nat.reduceAdd, Nat.reduceLT, Nat.reduceLeDiff, Nat.reduceEqDiff, Nat.reduceMul, ↓reduceIte]; done) | fail) only [sA, ↓reduceIte, Nat.reduceLT, Nat.reduceEqDiff, Nat.reduceAdd, Nat.reduceLeDiff, g2], by simp (disch := first | assumption | omega | (simp (disch := first | assumption | omega) only [sB, Nat.reduceAdd, Nat.reduceLT, Nat.reduceLeDiff, Nat.reduceEqDiff, Nat.reduceMul, ↓reduceIte]; done) | fail) only [sA, ↓reduceIte, Nat.reduceLT, Nat.reduceEqDiff, Nat.reduceAdd, Nat.reduceLeDiff, g3], by simp (disch := first | assumption | omega | (simp (disch := first | assumption | omega) only [sB, Nat.reduceAdd, Nat.reduceLT, Nat.reduceLeDiff, Nat.reduceEqDiff, Nat.reduceMul, ↓reduceIte]; done) | fail) only [sA, ↓reduceIte, Nat.reduceLT, Nat.reduceEqDiff, Nat.reduceAdd, Nat.reduceLeDiff]⟩⟩)
    _ ⟨(H0.box (r := n + 5) (m := n + 6) (by omega) (by omega) rfl).mono (by omega), by omega, by simp (disch := first | assumption | omega | (simp (disch := first | assumption | omega) only [sB, Nat.reduceAdd, Nat.reduceLT, Nat.reduceLeDiff, Nat.reduceEqDiff, Nat.reduceMul, ↓reduceIte]; done) | fail) only [sA, ↓reduceIte, Nat.reduceLT, Nat.reduceEqDiff, Nat.reduceAdd, Nat.reduceLeDiff], by simp (disch := first | assumption | omega | (simp (disch := first | assumption | omega) only [sB, Nat.reduceAdd, Nat.reduceLT, Nat.reduceLeDiff, Nat.reduceEqDiff, Nat.reduceMul, ↓reduceIte]; done) | fail) only [sA, ↓reduceIte, Nat.reduceLT, Nat.reduceEqDiff, Nat.reduceAdd, Nat.reduceLeDiff], -1, [], .nils, rfl, by omega, Upto.nil hv, by simp (disch := first | assumption | omega | (simp (disch := first | assumption | omega) only [sB, Nat.reduceAdd, Nat.reduceLT, Nat.reduceLeDiff, Nat.reduceEqDiff, Nat.reduceMul, ↓reduceIte]; done) | fail) only [sA, ↓reduceIte, Nat.reduceLT, Nat.reduceEqDiff, Nat.reduceAdd, Nat.reduceLeDiff]; rfl, .inl ⟨rfl, rfl⟩, by simp (disch := first | assumption | omega | (simp (disch := first | assumption | omega) only [sB, Nat.reduceAdd, Nat.reduceLT, Nat.reduceLeDiff, Nat.reduceEqDiff, Nat.reduceMul, ↓reduceIte]; done) | fail) only [sA, ↓reduceIte, Nat.reduceLT, Nat.reduceEqDiff, Nat.reduceAdd, Nat.reduceLeDiff], by simp (disch := first | assumption | omega | (simp (disch := first | assumption | omega) only [sB, Nat.reduceAdd, Nat.reduceLT, Nat.reduceLeDiff, Nat.reduceEqDiff, Nat.reduceMul, ↓reduceIte]; done) | fail) only [sA, ↓reduceIte, Nat.reduceLT, Nat.reduceEqDiff, Nat.reduceAdd, Nat.reduceLeDiff], by simp (disch := first | assumption | omega | (simp (disch := first | assumption | omega) only [sB, Nat.reduceAdd, Nat.reduceLT, Nat.reduceLeDiff, Nat.reduceEqDiff, Nat.reduceMul, ↓reduceIte]; done) | fail) only [sA, ↓reduceIte, Nat.reduceLT, Nat.reduceEqDiff, Nat.reduceAdd, Nat.reduceLeDiff], by simp (disch := first | assumption | omega | (simp (disch := first | assumption | omega) only [sB, Nat.reduceAdd, Nat.reduceLT, Nat.reduceLeDiff, Nat.reduceEqDiff, Nat.reduceMul, ↓reduceIte]; done) | fail) only [sA, ↓reduceIte, Nat.reduceLT, Nat.reduceEqDiff, Nat.reduceAdd, Nat.reduceLeDiff]⟩
  have b4 : getO (setO h2 (n + 1) (Ob.row 2 [.agg [.int .i64 (zn N (nfL l)), d2]])) (n + 1) = (Ob.row 2 [.agg [.int .i64 (zn N (nfL l)), d2]]) := getO_set1 b2
  have F4 := fun m hm => finish_box2 (a := zn N (nfL l)) elemV (B2.set b2 (by omega)) (show n ≤ n + 6 by omega) ((H2.set (r := n + 1) (x := (Ob.row 2 [.agg [.int .i64 (zn N (nfL l)), d2]])) (by omega) (fun q hq => B2.box2 (H2.good q hq))).mono (m := m) hm)
  have hod := B2.okD
  rw [← hR]
  simp (disch := first | assumption | omega | (simp (disch := first | assumption | omega) only [sB, Nat.reduceAdd, Nat.reduceLT, Nat.reduceLeDiff, Nat.reduceEqDiff, Nat.reduceMul, ↓reduceIte]; done) | fail) only [sA, ↓reduceIte, Nat.reduceLT, Nat.reduceEqDiff, Nat.reduceAdd, Nat.reduceLeDiff, g2, g3, b2, b3, b4, hod, F4]
  rfl
end Go.Proofs.Ytjagmfgjlfkmgaa

/- The reference's right, Norm, fits; small functions of the statements. No condition. -/
namespace Go.Proofs.Ytjagmfgjlfkmgaa
open Go

theorem good_of {n : Nat} {h : Hps} (hg : ∀ k, n ≤ k → GoodAt k h) {m : Nat} (hm : n ≤ m) : ∀ k, m ≤ k → GoodAt k h := fun k hk => hg k (Nat.le_trans hm hk)
section
variable (n : Nat) (h : Hps) (hg : ∀ k, n ≤ k → GoodAt k h)
include hg
theorem refRight (N : Int) (d : D) (l : List LV) (ad : Nat → D) (S : Sv 2 encV n h d l ad) (hs : l.length < 1000000000000) : callFn (LX (cF Go.Proofs.Try.prog)) n h [(D.agg [.int .i64 (N), d])] (cF Go.Proofs.Try.prog 70) = .ok (.bool (Lev.right ⟨N, l⟩)) n h := by
  have hgn := hg n (Nat.le_refl _)
  have H0 : Hp n h (n + 1) ((n, (Ob.row 2 [.agg [.int .i64 (N), d]])) :: h) := (Hp.start hg).cons (Nat.le_refl _) (by omega) (fun k hk => S.box2 (by omega))
  rw [f70_eq]; unfold c70; rw [callFn_eq (by rfl)]
  show _ = Rd.ok (.bool (fineI N && decide (l.length ≤ 64) && l.all fineV)) n h
  have s1 := S.len
  have s2 := S.idx
  have s3 := S.okD
  by_cases k1 : 0 ≤ N
  · by_cases k2 : N ≤ 1000
    · have hf : fineI N = true := fineI_iff.2 ⟨k1, k2⟩
      by_cases h2 : l.length ≤ 64
      · rw [hf, decide_eq_true h2, Bool.true_and, Bool.true_and]
        simp (disch := first | assumption | omega | (simp (disch := first | assumption | omega) only [sB, Nat.reduceAdd, Nat.reduceLT, Nat.reduceLeDiff, Nat.reduceEqDiff, Nat.reduceMul, ↓reduceIte]; done) | fail) only [sA, ↓reduceIte, Nat.reduceLT, Nat.reduceEqDiff, Nat.reduceAdd, Nat.reduceLeDiff, s1, s3]
        generalize hr : LX (cF Go.Proofs.Try.prog) (.loop l70_0) _ _ _ = r
        obtain ⟨x, e2, n2, h2', rfl, H2, q⟩ := loop_up hr l.length
          (fun i e n' h' => Hp n h n' h' ∧ n + 1 ≤ n' ∧ getO h' n = (Ob.row 2 [.agg [.int .i64 (N), d]]) ∧ (l.drop i).all fineV = l.all fineV ∧ get (po 1) e = .ptr n 0 0 ∧ get (po 3) e = .int .i64 (i : Nat))
          (fun x e n' h' => Hp n h n' h' ∧ ((x = .exit 0 ∧ l.all fineV = true) ∨ (x = .ret ∧ l.all fineV = false ∧ get (po 2) e = .bool false)))
          (by
            rintro e n' h' ⟨H, p1, b1, ha, g1, g3⟩
            unfold l70_0
            simp (disch := first | assumption | omega | (simp (disch := first | assumption | omega) only [sB, Nat.reduceAdd, Nat.reduceLT, Nat.reduceLeDiff, Nat.reduceEqDiff, Nat.reduceMul, ↓reduceIte]; done) | fail) only [sA, ↓reduceIte, Nat.reduceLT, Nat.reduceEqDiff, Nat.reduceAdd, Nat.reduceLeDiff, g1, g3, b1, s1, s3]
            exact ⟨_, _, _, _, rfl, by simp, H.mono (by omega), .inl ⟨rfl, by rw [← ha]; simp⟩⟩)
          (by
            rintro i e n' h' hi ⟨H, p1, b1, ha, g1, g3⟩
            rw [List.drop_eq_getElem_cons hi, List.all_cons] at ha
            have H1 : ∀ q, q = n' + 10 → Hp n h (q + 1) ((q, .row 2 [encV l[i]]) :: h') := fun q hq => H.box (by omega) (by omega) rfl
            have s4 := S.at H
            have hff : fineV l[i] = (fineI l[i].1 && fineI l[i].2) := rfl
            unfold l70_0
            by_cases a1 : 0 ≤ l[i].1
            · by_cases a2 : l[i].1 ≤ 1000
              · by_cases a3 : 0 ≤ l[i].2
                · by_cases a4 : l[i].2 ≤ 1000
                  · rw [hff, fineI_iff.2 ⟨a1, a2⟩, fineI_iff.2 ⟨a3, a4⟩] at ha
                    simp (disch := first | assumption | omega | (simp (disch := first | assumption | omega) only [sB, Nat.reduceAdd, Nat.reduceLT, Nat.reduceLeDiff, Nat.reduceEqDiff, Nat.reduceMul, ↓reduceIte]; done) | fail) only [sA, ↓reduceIte, Nat.reduceLT, Nat.reduceEqDiff, Nat.reduceAdd, Nat.reduceLeDiff, g1, g3, b1, s1, s2, s3, s4, encV]
                    exact ⟨_, _, _, _, rfl, .inl ⟨rfl, (H1 _ rfl).mono (by omega), by omega, getO_keep b1 (by omega), ha, by simp (disch := first | assumption | omega | (simp (disch := first | assumption | omega) only [sB, Nat.reduceAdd, Nat.reduceLT, Nat.reduceLeDiff, Nat.reduceEqDiff, Nat.reduceMul, ↓reduceIte]; done) | fail) only [sA, ↓reduceIte, Nat.reduceLT, Nat.reduceEqDiff, Nat.reduceAdd, Nat.reduceLeDiff, g1], by simp (disch := first | assumption | omega | (simp (disch := first | assumption | omega) only [sB, Nat.reduceAdd, Nat.reduceLT, Nat.reduceLeDiff, Nat.reduceEqDiff, Nat.reduceMul, ↓reduceIte]; done) | fail) only [sA, ↓reduceIte, Nat.reduceLT, Nat.reduceEqDiff, Nat.reduceAdd, Nat.reduceLeDiff]⟩⟩
                  · have hf : fineI l[i].2 = false := by rw [← Bool.not_eq_true, fineI_iff]; omega
                    rw [hff, hf, Bool.and_false, Bool.false_and] at ha
                    simp (disch := first | assumption | omega | (simp (disch := first | assumption | omega) only [sB, Nat.reduceAdd, Nat.reduceLT, Nat.reduceLeDiff, Nat.reduceEqDiff, Nat.reduceMul, ↓reduceIte]; done) | fail) only [sA, ↓reduceIte, Nat.reduceLT, Nat.reduceEqDiff, Nat.reduceAdd, Nat.reduceLeDiff, g1, g3, b1, s1, s2, s3, s4, encV]
                    exact ⟨_, _, _, _, rfl, .inr ⟨by simp, (H1 _ rfl).mono (by omega), .inr ⟨rfl, ha.symm, by simp (disch := first | assumption | omega | (simp (disch := first | assumption | omega) only [sB, Nat.reduceAdd, Nat.reduceLT, Nat.reduceLeDiff, Nat.reduceEqDiff, Nat.reduceMul, ↓reduceIte]; done) | fail) only [sA, ↓reduceIte, Nat.reduceLT, Nat.reduceEqDiff, Nat.reduceAdd, Nat.reduceLeDiff]⟩⟩⟩
                · have hf : fineI l[i].2 = false := by rw [← Bool.not_eq_true, fineI_iff]; omega
                  rw [hff, hf, Bool.and_false, Bool.false_and] at ha
                  simp (disch := first | assumption | omega | (simp (disch := first | assumption | omega) only [sB, Nat.reduceAdd, Nat.reduceLT, Nat.reduceLeDiff, Nat.reduceEqDiff, Nat.reduceMul, ↓reduceIte]; done) | fail) only [sA, ↓reduceIte, Nat.reduceLT, Nat.reduceEqDiff, Nat.reduceAdd, Nat.reduceLeDiff, g1, g3, b1, s1, s2, s3, s4, encV]
                  exact ⟨_, _, _, _, rfl, .inr ⟨by simp, (H1 _ rfl).mono (by omega), .inr ⟨rfl, ha.symm, by simp (disch := first | assumption | omega | (simp (disch := first | assumption | omega) only [sB, Nat.reduceAdd, Nat.reduceLT, Nat.reduceLeDiff, Nat.reduceEqDiff, Nat.reduceMul, ↓reduceIte]; done) | fail) only [sA, ↓reduceIte, Nat.reduceLT, Nat.reduceEqDiff, Nat.reduceAdd, Nat.reduceLeDiff]⟩⟩⟩
              · have hf : fineI l[i].1 = false := by rw [← Bool.not_eq_true, fineI_iff]; omega
                rw [hff, hf, Bool.false_and, Bool.false_and] at ha
                simp (disch := first | assumption | omega | (simp (disch := first | assumption | omega) only [sB, Nat.reduceAdd, Nat.reduceLT, Nat.reduceLeDiff, Nat.reduceEqDiff, Nat.reduceMul, ↓reduceIte]; done) | fail) only [sA, ↓reduceIte, Nat.reduceLT, Nat.reduceEqDiff, Nat.reduceAdd, Nat.reduceLeDiff, g1, g3, b1, s1, s2, s3, s4, encV]
                exact ⟨_, _, _, _, rfl, .inr ⟨by simp, (H1 _ rfl).mono (by omega), .inr ⟨rfl, ha.symm, by simp (disch := first | assumption | omega | (simp (disch := first | assumption | omega) only [sB, Nat.reduceAdd, Nat.reduceLT, Nat.reduceLeDiff, Nat.reduceEqDiff, Nat.reduceMul, ↓reduceIte]; done) | fail) only [sA, ↓reduceIte, Nat.reduceLT, Nat.reduceEqDiff, Nat.reduceAdd, Nat.reduceLeDiff]⟩⟩⟩
            · have hf : fineI l[i].1 = false := by rw [← Bool.not_eq_true, fineI_iff]; omega
              rw [hff, hf, Bool.false_and, Bool.false_and] at ha
              simp (disch := first | assumption | omega | (simp (disch := first | assumption | omega) only [sB, Nat.reduceAdd, Nat.reduceLT, Nat.reduceLeDiff, Nat.reduceEqDiff, Nat.reduceMul, ↓reduceIte]; done) | fail) only [sA, ↓reduceIte, Nat.reduceLT, Nat.reduceEqDiff, Nat.reduceAdd, Nat.reduceLeDiff, g1, g3, b1, s1, s2, s3, s4, encV]
              exact ⟨_, _, _, _, rfl, .inr ⟨by simp, (H1 _ rfl).mono (by omega), .inr ⟨rfl, ha.symm, by simp (disch := first | assumption | omega | (simp (disch := first | assumption | omega) only [sB, Nat.reduceAdd, Nat.reduceLT, Nat.reduceLeDiff, Nat.reduceEqDiff, Nat.reduceMul, ↓reduceIte]; done) | fail) only [sA, ↓reduceIte, Nat.reduceLT, Nat.reduceEqDiff, Nat.reduceAdd, Nat.reduceLeDiff]⟩⟩⟩)
          ⟨H0.mono (by omega), by omega, by simp (disch := first | assumption | omega | (simp (disch := first | assumption | omega) only [sB, Nat.reduceAdd, Nat.reduceLT, Nat.reduceLeDiff, Nat.reduceEqDiff, Nat.reduceMul, ↓reduceIte]; done) | fail) only [sA, ↓reduceIte, Nat.reduceLT, Nat.reduceEqDiff, Nat.reduceAdd, Nat.reduceLeDiff], rfl, by simp (disch := first | assumption | omega | (simp (disch := first | assumption | omega) only [sB, Nat.reduceAdd, Nat.reduceLT, Nat.reduceLeDiff, Nat.reduceEqDiff, Nat.reduceMul, ↓reduceIte]; done) | fail) only [sA, ↓reduceIte, Nat.reduceLT, Nat.reduceEqDiff, Nat.reduceAdd, Nat.reduceLeDiff], by simp (disch := first | assumption | omega | (simp (disch := first | assumption | omega) only [sB, Nat.reduceAdd, Nat.reduceLT, Nat.reduceLeDiff, Nat.reduceEqDiff, Nat.reduceMul, ↓reduceIte]; done) | fail) only [sA, ↓reduceIte, Nat.reduceLT, Nat.reduceEqDiff, Nat.reduceAdd, Nat.reduceLeDiff]⟩
        rcases q with ⟨rfl, q⟩ | ⟨rfl, q, q2⟩
        · rw [q]
          simp (disch := first | assumption | omega | (simp (disch := first | assumption | omega) only [sB, Nat.reduceAdd, Nat.reduceLT, Nat.reduceLeDiff, Nat.reduceEqDiff, Nat.reduceMul, ↓reduceIte]; done) | fail) only [sA, ↓reduceIte, Nat.reduceLT, Nat.reduceEqDiff, Nat.reduceAdd, Nat.reduceLeDiff, finish_flat (d := .bool true) rfl (H2.mono (show n2 ≤ n2 + 1 by omega))]
        · rw [q]
          simp (disch := first | assumption | omega | (simp (disch := first | assumption | omega) only [sB, Nat.reduceAdd, Nat.reduceLT, Nat.reduceLeDiff, Nat.reduceEqDiff, Nat.reduceMul, ↓reduceIte]; done) | fail) only [sA, ↓reduceIte, Nat.reduceLT, Nat.reduceEqDiff, Nat.reduceAdd, Nat.reduceLeDiff, q2, finish_flat (d := .bool false) rfl H2]
      · rw [decide_eq_false h2, Bool.and_false, Bool.false_and]
        simp (disch := first | assumption | omega | (simp (disch := first | assumption | omega) only [sB, Nat.reduceAdd, Nat.reduceLT, Nat.reduceLeDiff, Nat.reduceEqDiff, Nat.reduceMul, ↓reduceIte]; done) | fail) only [sA, ↓reduceIte, Nat.reduceLT, Nat.reduceEqDiff, Nat.reduceAdd, Nat.reduceLeDiff, s1, s3]
    · have hf : fineI N = false := by rw [← Bool.not_eq_true, fineI_iff]; omega
      rw [hf, Bool.false_and, Bool.false_and]
      simp (disch := first | assumption | omega | (simp (disch := first | assumption | omega) only [sB, Nat.reduceAdd, Nat.reduceLT, Nat.reduceLeDiff, Nat.reduceEqDiff, Nat.reduceMul, ↓reduceIte]; done) | fail) only [sA, ↓reduceIte, Nat.reduceLT, Nat.reduceEqDiff, Nat.reduceAdd, Nat.reduceLeDiff, s1, s3]
  · have hf : fineI N = false := by rw [← Bool.not_eq_true, fineI_iff]; omega
    rw [hf, Bool.false_and, Bool.false_and]
    simp (disch := first | assumption | omega | (simp (disch := first | assumption | omega) only [sB, Nat.reduceAdd, Nat.reduceLT, Nat.reduceLeDiff, Nat.reduceEqDiff, Nat.reduceMul, ↓reduceIte]; done) | fail) only [sA, ↓reduceIte, Nat.reduceLT, Nat.reduceEqDiff, Nat.reduceAdd, Nat.reduceLeDiff, s1, s3]
theorem refNorm (N : Int) (d : D) (l : List LV) (ad : Nat → D) (S : Sv 2 encV n h d l ad) (hs : l.length < 1000000000000) : callFn (LX (cF Go.Proofs.Try.prog)) n h [(D.agg [.int .i64 (N), d])] (cF Go.Proofs.Try.prog 37) = .ok (D.tup [.agg [.int .i64 (Lev.nrm ⟨N, l⟩).1.n, slD 2 encV (Sl.app (Lev.nrm ⟨N, l⟩).1.v)], .int .i64 (Lev.nrm ⟨N, l⟩).2]) n h := by
  have hgn := hg n (Nat.le_refl _)
  have s3 := S.okD
  have H0 : Hp n h (n + 2) ((n + 1, (Ob.row 2 [.agg [.int .i64 0, .nils]])) :: (n, (Ob.row 2 [.agg [.int .i64 (N), d]])) :: h) := ((Hp.start hg).cons (r := n) (m := n + 1) (Nat.le_refl _) (by omega) (fun k hk => S.box2 (by omega))).box (m := n + 2) (r := n + 1) (by omega) (by omega) rfl
  have c1 : ∀ m, n + 2 ≤ m → callFn (LX (cF Go.Proofs.Try.prog)) m ((n + 1, (Ob.row 2 [.agg [.int .i64 0, .nils]])) :: (n, (Ob.row 2 [.agg [.int .i64 (N), d]])) :: h) [(D.agg [.int .i64 (N), d])] (cF Go.Proofs.Try.prog 70) = .ok (.bool (Lev.right ⟨N, l⟩)) m ((n + 1, (Ob.row 2 [.agg [.int .i64 0, .nils]])) :: (n, (Ob.row 2 [.agg [.int .i64 (N), d]])) :: h) := fun m hm => refRight m _ (H0.good' hm) N d l ad (S.mono H0 hm) hs
  unfold Lev.nrm
  by_cases hb : Lev.right ⟨N, l⟩ = true
  · have hr := right_iff.1 hb
    have c0 : ∀ m, n + 2 ≤ m → callFn (LX (cF Go.Proofs.Try.prog)) m ((n + 1, (Ob.row 2 [.agg [.int .i64 0, .nils]])) :: (n, (Ob.row 2 [.agg [.int .i64 (N), d]])) :: h) [(D.agg [.int .i64 (N), d])] (cF Go.Proofs.Try.prog 71) = .ok (D.agg [.int .i64 (Lev.norm ⟨N, l⟩).n, slD 2 encV (Sl.app (Lev.norm ⟨N, l⟩).v)]) m ((n + 1, (Ob.row 2 [.agg [.int .i64 0, .nils]])) :: (n, (Ob.row 2 [.agg [.int .i64 (N), d]])) :: h) := fun m hm => refTidy m _ (H0.good' hm) N d l ad (S.mono H0 hm) hs (fun p hp => (hr.2.2 p hp).1.1) (by have := hr.1; simp at this; omega)
    generalize hN : Lev.norm ⟨N, l⟩ = M at c0 ⊢
    obtain ⟨Mn, Mv⟩ := M
    rw [if_pos hb]
    rw [hb] at c1
    rw [f37_eq]; unfold c37; rw [callFn_eq (by rfl)]
    simp (disch := first | assumption | omega | (simp (disch := first | assumption | omega) only [sB, Nat.reduceAdd, Nat.reduceLT, Nat.reduceLeDiff, Nat.reduceEqDiff, Nat.reduceMul, ↓reduceIte]; done) | fail) only [sA, ↓reduceIte, Nat.reduceLT, Nat.reduceEqDiff, Nat.reduceAdd, Nat.reduceLeDiff, c0, c1, s3]
  · rw [if_neg hb]
    rw [Bool.not_eq_true] at hb
    rw [hb] at c1
    rw [f37_eq]; unfold c37; rw [callFn_eq (by rfl)]
    simp (disch := first | assumption | omega | (simp (disch := first | assumption | omega) only [sB, Nat.reduceAdd, Nat.reduceLT, Nat.reduceLeDiff, Nat.reduceEqDiff, Nat.reduceMul, ↓reduceIte]; done) | fail) only [sA, ↓reduceIte, Nat.reduceLT, Nat.reduceEqDiff, Nat.reduceAdd, Nat.reduceLeDiff, c1, s3, slD_nil]
/-- fits: what is told of a level whose variables' numbers are not below 0 -/
theorem refFits (N : Int) (d : D) (l : List LV) (ad : Nat → D) (S : Sv 2 encV n h d l ad) (hs : l.length < 1000000000000) (hv : ∀ p, p ∈ l → 0 ≤ p.1 ∧ 0 ≤ p.2) (hN : 0 ≤ N ∧ N < 4611686018427387904) : callFn (LX (cF Go.Proofs.Try.prog)) n h [(D.agg [.int .i64 (N), d])] (cF Go.Proofs.Try.prog 77) = .ok (D.tup [.agg [.int .i64 (Lev.told ⟨N, l⟩).1.n, slD 2 encV (Sl.app (Lev.told ⟨N, l⟩).1.v)], .int .i64 (Lev.told ⟨N, l⟩).2]) n h := by
  have hgn := hg n (Nat.le_refl _)
  have s3 := S.okD
  have H0 : Hp n h (n + 2) ((n + 1, (Ob.row 2 [.agg [.int .i64 0, .nils]])) :: (n, (Ob.row 2 [.agg [.int .i64 (N), d]])) :: h) := ((Hp.start hg).cons (r := n) (m := n + 1) (Nat.le_refl _) (by omega) (fun k hk => S.box2 (by omega))).box (m := n + 2) (r := n + 1) (by omega) (by omega) rfl
  have c0 : ∀ m, n + 2 ≤ m → callFn (LX (cF Go.Proofs.Try.prog)) m ((n + 1, (Ob.row 2 [.agg [.int .i64 0, .nils]])) :: (n, (Ob.row 2 [.agg [.int .i64 (N), d]])) :: h) [(D.agg [.int .i64 (N), d])] (cF Go.Proofs.Try.prog 71) = .ok (D.agg [.int .i64 (Lev.norm ⟨N, l⟩).n, slD 2 encV (Sl.app (Lev.norm ⟨N, l⟩).v)]) m ((n + 1, (Ob.row 2 [.agg [.int .i64 0, .nils]])) :: (n, (Ob.row 2 [.agg [.int .i64 (N), d]])) :: h) := fun m hm => refTidy m _ (H0.good' hm) N d l ad (S.mono H0 hm) hs (fun p hp => (hv p hp).1) (by omega)
  have hlen := norm_len ⟨N, l⟩
  have hid := norm_norm ⟨N, l⟩ hN.1 (fun p hp => (hv p hp).2)
  have ht : Lev.told ⟨N, l⟩ = Lev.nrm (Lev.norm ⟨N, l⟩) := by unfold Lev.told Lev.nrm; rw [hid]
  rw [ht]
  clear ht
  generalize hM : Lev.norm ⟨N, l⟩ = M at c0 hlen hid ⊢
  obtain ⟨Mn, Mv⟩ := M
  replace hlen : Mv.length ≤ l.length := hlen
  have H1 : Hp n h (n + 2) ((n + 1, (Ob.row 2 [.agg [.int .i64 0, .nils]])) :: (n, (Ob.row 2 [.agg [.int .i64 (Mn), slD 2 encV (Sl.app Mv)]])) :: h) := ((Hp.start hg).box (r := n) (m := n + 1) (Nat.le_refl _) (by omega) (flatL ⟨Mn, Sl.app Mv⟩)).box (m := n + 2) (r := n + 1) (by omega) (by omega) rfl
  have c1 : ∀ m, n + 2 ≤ m → callFn (LX (cF Go.Proofs.Try.prog)) m ((n + 1, (Ob.row 2 [.agg [.int .i64 0, .nils]])) :: (n, (Ob.row 2 [.agg [.int .i64 (Mn), slD 2 encV (Sl.app Mv)]])) :: h) [(D.agg [.int .i64 (Mn), slD 2 encV (Sl.app Mv)])] (cF Go.Proofs.Try.prog 37) = .ok (D.tup [.agg [.int .i64 (Lev.nrm ⟨Mn, Mv⟩).1.n, slD 2 encV (Sl.app (Lev.nrm ⟨Mn, Mv⟩).1.v)], .int .i64 (Lev.nrm ⟨Mn, Mv⟩).2]) m ((n + 1, (Ob.row 2 [.agg [.int .i64 0, .nils]])) :: (n, (Ob.row 2 [.agg [.int .i64 (Mn), slD 2 encV (Sl.app Mv)]])) :: h) := fun m hm => refNorm m _ (H1.good' hm) Mn _ Mv _ (svA Mv) (by omega)
  generalize hR : Lev.nrm ⟨Mn, Mv⟩ = R at c1 ⊢
  obtain ⟨⟨Rn, Rv⟩, Re⟩ := R
  rw [f77_eq]; unfold c77; rw [callFn_eq (by rfl)]
  simp (disch := first | assumption | omega | (simp (disch := first | assumption | omega) only [sB, Nat.reduceAdd, Nat.reduceLT, Nat.reduceLeDiff, Nat.reduceEqDiff, Nat.reduceMul, ↓reduceIte]; done) | fail) only [sA, ↓reduceIte, Nat.reduceLT, Nat.reduceEqDiff, Nat.reduceAdd, Nat.reduceLeDiff, c0, c1, s3]
theorem lawNum (a : Int) : callFn (LX (cF Go.Proofs.Try.prog)) n h [.int .i64 a] (cF Go.Proofs.Try.prog 39) = .ok (.int .i64 a) n h := by
  have hgn := hg n (Nat.le_refl _)
  rw [f39_eq]; unfold c39; rw [callFn_eq (by rfl)]
  simp (disch := first | assumption | omega | (simp (disch := first | assumption | omega) only [sB, Nat.reduceAdd, Nat.reduceLT, Nat.reduceLeDiff, Nat.reduceEqDiff, Nat.reduceMul, ↓reduceIte]; done) | fail) only [sA, ↓reduceIte, Nat.reduceLT, Nat.reduceEqDiff, Nat.reduceAdd, Nat.reduceLeDiff]
theorem lawV (a b : Int) : callFn (LX (cF Go.Proofs.Try.prog)) n h [.int .i64 a, .int .i64 b] (cF Go.Proofs.Try.prog 32) = .ok (.agg [.int .i64 0, .sl 2 [.agg [.int .i64 a, .int .i64 b]] [] true]) n h := by
  have hgn := hg n (Nat.le_refl _)
  rw [f32_eq]; unfold c32; rw [callFn_eq (by rfl)]
  simp (disch := first | assumption | omega | (simp (disch := first | assumption | omega) only [sB, Nat.reduceAdd, Nat.reduceLT, Nat.reduceLeDiff, Nat.reduceEqDiff, Nat.reduceMul, ↓reduceIte]; done) | fail) only [sA, ↓reduceIte, Nat.reduceLT, Nat.reduceEqDiff, Nat.reduceAdd, Nat.reduceLeDiff]
theorem lawBig (N : Int) (d : D) (l : List LV) (ad : Nat → D) (S : Sv 2 encV n h d l ad) : callFn (LX (cF Go.Proofs.Try.prog)) n h [(D.agg [.int .i64 (N), d])] (cF Go.Proofs.Try.prog 34) = .ok (.bool (decide (200 < l.length))) n h := by
  have hgn := hg n (Nat.le_refl _)
  have s1 := S.len
  have s3 := S.okD
  have H0 : Hp n h (n + 1) ((n, (Ob.row 2 [.agg [.int .i64 (N), d]])) :: h) := (Hp.start hg).cons (Nat.le_refl _) (by omega) (fun k hk => S.box2 (by omega))
  rw [f34_eq]; unfold c34; rw [callFn_eq (by rfl)]
  by_cases hb : 200 < l.length
  · rw [decide_eq_true hb]
    simp (disch := first | assumption | omega | (simp (disch := first | assumption | omega) only [sB, Nat.reduceAdd, Nat.reduceLT, Nat.reduceLeDiff, Nat.reduceEqDiff, Nat.reduceMul, ↓reduceIte]; done) | fail) only [sA, ↓reduceIte, Nat.reduceLT, Nat.reduceEqDiff, Nat.reduceAdd, Nat.reduceLeDiff, s1, s3]
  · rw [decide_eq_false hb]
    simp (disch := first | assumption | omega | (simp (disch := first | assumption | omega) only [sB, Nat.reduceAdd, Nat.reduceLT, Nat.reduceLeDiff, Nat.reduceEqDiff, Nat.reduceMul, ↓reduceIte]; done) | fail) only [sA, ↓reduceIte, Nat.reduceLT, Nat.reduceEqDiff, Nat.reduceAdd, Nat.reduceLeDiff, s1, s3]
end
end Go.Proofs.Ytjagmfgjlfkmgaa

/- Whether two levels are one in all fields; the reference's Suc and Max. No condition. -/
namespace Go.Proofs.Ytjagmfgjlfkmgaa
open Go

theorem take_inj {α : Type} {l m : List α} {i : Nat} (hl : i < l.length) (hm : i < m.length) : l.take (i + 1) = m.take (i + 1) ↔ l.take i = m.take i ∧ l[i] = m[i] := by
  rw [List.take_succ_eq_append_getElem hl, List.take_succ_eq_append_getElem hm]
  constructor
  · intro h
    have := List.append_inj h (by rw [List.length_take, List.length_take]; omega)
    exact ⟨this.1, by simpa using this.2⟩
  · rintro ⟨h1, h2⟩
    rw [h1, h2]
theorem take_ne {α : Type} {l m : List α} {i : Nat} (hl : i < l.length) (hm : i < m.length) (h : l[i] ≠ m[i]) : l ≠ m := fun e => h (by subst e; rfl)

theorem lawExact (n : Nat) (h : Hps) (hg : ∀ k, n ≤ k → GoodAt k h) (N N' : Int) (d d' : D) (l l' : List LV) (ad ad' : Nat → D) (S : Sv 2 encV n h d l ad) (S' : Sv 2 encV n h d' l' ad') (hs : l.length < 1000000000000) (hs' : l'.length < 1000000000000) :
    callFn (LX (cF Go.Proofs.Try.prog)) n h [(D.agg [.int .i64 (N), d]), (D.agg [.int .i64 (N'), d'])] (cF Go.Proofs.Try.prog 40) = .ok (.bool (decide (N = N' ∧ l = l'))) n h := by
  have hgn := hg n (Nat.le_refl _)
  have s1 := S.len
  have s2 := S.idx
  have s3 := S.okD
  have t1 := S'.len
  have t2 := S'.idx
  have t3 := S'.okD
  have H0 : Hp n h (n + 2) ((n + 1, (Ob.row 2 [.agg [.int .i64 (N'), d']])) :: (n, (Ob.row 2 [.agg [.int .i64 (N), d]])) :: h) := ((Hp.start hg).cons (r := n) (m := n + 1) (Nat.le_refl _) (by omega) (fun k hk => S.box2 (by omega))).cons (m := n + 2) (r := n + 1) (by omega) (by omega) (fun k hk => S'.box2 (by omega))
  rw [f40_eq]; unfold c40; rw [callFn_eq (by rfl)]
  by_cases h1 : N = N'
  · by_cases h2 : l.length = l'.length
    · simp (disch := first | assumption | omega | (simp (disch := first | assumption | omega) only [sB, Nat.reduceAdd, Nat.reduceLT, Nat.reduceLeDiff, Nat.reduceEqDiff, Nat.reduceMul, ↓reduceIte]; done) | fail) only [sA, ↓reduceIte, Nat.reduceLT, Nat.reduceEqDiff, Nat.reduceAdd, Nat.reduceLeDiff, s1, s3, t1, t3]
      generalize hr : LX (cF Go.Proofs.Try.prog) (.loop l40_0) _ _ _ = r
      obtain ⟨x, e2, n2, h2', rfl, H2, q⟩ := loop_up hr l.length
        (fun i e n' h' => Hp n h n' h' ∧ n + 2 ≤ n' ∧ getO h' n = (Ob.row 2 [.agg [.int .i64 (N), d]]) ∧ getO h' (n + 1) = (Ob.row 2 [.agg [.int .i64 (N'), d']]) ∧ l.take i = l'.take i ∧ get (po 2) e = .ptr n 0 0 ∧ get (po 3) e = .ptr (n + 1) 0 0 ∧ get (po 5) e = .int .i64 (i : Nat))
        (fun x e n' h' => Hp n h n' h' ∧ ((x = .exit 0 ∧ l = l') ∨ (x = .ret ∧ l ≠ l' ∧ get (po 4) e = .bool false)))
        (by
          rintro e n' h' ⟨H, p1, b1, b2, ht, g2, g3, g5⟩
          unfold l40_0
          rw [List.take_length, h2, List.take_length] at ht
          simp (disch := first | assumption | omega | (simp (disch := first | assumption | omega) only [sB, Nat.reduceAdd, Nat.reduceLT, Nat.reduceLeDiff, Nat.reduceEqDiff, Nat.reduceMul, ↓reduceIte]; done) | fail) only [sA, ↓reduceIte, Nat.reduceLT, Nat.reduceEqDiff, Nat.reduceAdd, Nat.reduceLeDiff, g2, g3, g5, b1, s1, s3]
          exact ⟨_, _, _, _, rfl, by simp, H.mono (by omega), .inl ⟨rfl, ht⟩⟩)
        (by
          rintro i e n' h' hi ⟨H, p1, b1, b2, ht, g2, g3, g5⟩
          have hi' : i < l'.length := by omega
          have s4 := S.at H
          have t4 := S'.at H
          unfold l40_0
          by_cases a1 : l[i].1 = l'[i].1
          · by_cases a2 : l[i].2 = l'[i].2
            · simp (disch := first | assumption | omega | (simp (disch := first | assumption | omega) only [sB, Nat.reduceAdd, Nat.reduceLT, Nat.reduceLeDiff, Nat.reduceEqDiff, Nat.reduceMul, ↓reduceIte]; done) | fail) only [sA, ↓reduceIte, Nat.reduceLT, Nat.reduceEqDiff, Nat.reduceAdd, Nat.reduceLeDiff, g2, g3, g5, b1, b2, s1, s2, s3, s4, t1, t2, t3, t4, encV]
              exact ⟨_, _, _, _, rfl, .inl ⟨rfl, H.mono (by omega), by omega, b1, b2, (take_inj hi hi').2 ⟨ht, Prod.ext a1 a2⟩, by simp (disch := first | assumption | omega | (simp (disch := first | assumption | omega) only [sB, Nat.reduceAdd, Nat.reduceLT, Nat.reduceLeDiff, Nat.reduceEqDiff, Nat.reduceMul, ↓reduceIte]; done) | fail) only [sA, ↓reduceIte, Nat.reduceLT, Nat.reduceEqDiff, Nat.reduceAdd, Nat.reduceLeDiff, g2], by simp (disch := first | assumption | omega | (simp (disch := first | assumption | omega) only [sB, Nat.reduceAdd, Nat.reduceLT, Nat.reduceLeDiff, Nat.reduceEqDiff, Nat.reduceMul, ↓reduceIte]; done) | fail) only [sA, ↓reduceIte, Nat.reduceLT, Nat.reduceEqDiff, Nat.reduceAdd, Nat.reduceLeDiff, g3], by simp (disch := first | assumption | omega | (simp (disch := first | assumption | omega) only [sB, Nat.reduceAdd, Nat.reduceLT, Nat.reduceLeDiff, Nat.reduceEqDiff, Nat.reduceMul, ↓reduceIte]; done) | fail) only [sA, ↓reduceIte, Nat.reduceLT, Nat.reduceEqDiff, Nat.reduceAdd, Nat.reduceLeDiff]⟩⟩
            · simp (disch := first | assumption | omega | (simp (disch := first | assumption | omega) only [sB, Nat.reduceAdd, Nat.reduceLT, Nat.reduceLeDiff, Nat.reduceEqDiff, Nat.reduceMul, ↓reduceIte]; done) | fail) only [sA, ↓reduceIte, Nat.reduceLT, Nat.reduceEqDiff, Nat.reduceAdd, Nat.reduceLeDiff, g2, g3, g5, b1, b2, s1, s2, s3, s4, t1, t2, t3, t4, encV]
              exact ⟨_, _, _, _, rfl, .inr ⟨by simp, H.mono (by omega), .inr ⟨rfl, take_ne hi hi' (fun e => a2 (by rw [e])), by simp (disch := first | assumption | omega | (simp (disch := first | assumption | omega) only [sB, Nat.reduceAdd, Nat.reduceLT, Nat.reduceLeDiff, Nat.reduceEqDiff, Nat.reduceMul, ↓reduceIte]; done) | fail) only [sA, ↓reduceIte, Nat.reduceLT, Nat.reduceEqDiff, Nat.reduceAdd, Nat.reduceLeDiff]⟩⟩⟩
          · simp (disch := first | assumption | omega | (simp (disch := first | assumption | omega) only [sB, Nat.reduceAdd, Nat.reduceLT, Nat.reduceLeDiff, Nat.reduceEqDiff, Nat.reduceMul, ↓reduceIte]; done) | fail) only [sA, ↓reduceIte, Nat.reduceLT, Nat.reduceEqDiff, Nat.reduceAdd, Nat.reduceLeDiff, g2, g3, g5, b1, b2, s1, s2, s3, s4, t1, t2, t3, t4, encV]
            exact ⟨_, _, _, _, rfl, .inr ⟨by simp, H.mono (by omega), .inr ⟨rfl, take_ne hi hi' (fun e => a1 (by rw [e])), by simp (disch := first | assumption | omega | (simp (disch := first | assumption | omega) only [sB, Nat.reduceAdd, Nat.reduceLT, Nat.reduceLeDiff, Nat.reduceEqDiff, Nat.reduceMul, ↓reduceIte]; done) | fail) only [sA, ↓reduceIte, Nat.reduceLT, Nat.reduceEqDiff, Nat.reduceAdd, Nat.reduceLeDiff]⟩⟩⟩)
        ⟨H0.mono (by omega), by omega, by simp (disch := first | assumption | omega | (simp (disch := first | assumption | omega) only [sB, Nat.reduceAdd, Nat.reduceLT, Nat.reduceLeDiff, Nat.reduceEqDiff, Nat.reduceMul, ↓reduceIte]; done) | fail) only [sA, ↓reduceIte, Nat.reduceLT, Nat.reduceEqDiff, Nat.reduceAdd, Nat.reduceLeDiff], by simp (disch := first | assumption | omega | (simp (disch := first | assumption | omega) only [sB, Nat.reduceAdd, Nat.reduceLT, Nat.reduceLeDiff, Nat.reduceEqDiff, Nat.reduceMul, ↓reduceIte]; done) | fail) only [sA, ↓reduceIte, Nat.reduceLT, Nat.reduceEqDiff, Nat.reduceAdd, Nat.reduceLeDiff], by simp, by simp (disch := first | assumption | omega | (simp (disch := first | assumption | omega) only [sB, Nat.reduceAdd, Nat.reduceLT, Nat.reduceLeDiff, Nat.reduceEqDiff, Nat.reduceMul, ↓reduceIte]; done) | fail) only [sA, ↓reduceIte, Nat.reduceLT, Nat.reduceEqDiff, Nat.reduceAdd, Nat.reduceLeDiff], by simp (disch := first | assumption | omega | (simp (disch := first | assumption | omega) only [sB, Nat.reduceAdd, Nat.reduceLT, Nat.reduceLeDiff, Nat.reduceEqDiff, Nat.reduceMul, ↓reduceIte]; done) | fail) only [sA, ↓reduceIte, Nat.reduceLT, Nat.reduceEqDiff, Nat.reduceAdd, Nat.reduceLeDiff], by simp (disch := first | assumption | omega | (simp (disch := first | assumption | omega) only [sB, Nat.reduceAdd, Nat.reduceLT, Nat.reduceLeDiff, Nat.reduceEqDiff, Nat.reduceMul, ↓reduceIte]; done) | fail) only [sA, ↓reduceIte, Nat.reduceLT, Nat.reduceEqDiff, Nat.reduceAdd, Nat.reduceLeDiff]⟩
      rcases q with ⟨rfl, q⟩ | ⟨rfl, q, q2⟩
      · rw [decide_eq_true (show N = N' ∧ l = l' from ⟨h1, q⟩)]
        simp (disch := first | assumption | omega | (simp (disch := first | assumption | omega) only [sB, Nat.reduceAdd, Nat.reduceLT, Nat.reduceLeDiff, Nat.reduceEqDiff, Nat.reduceMul, ↓reduceIte]; done) | fail) only [sA, ↓reduceIte, Nat.reduceLT, Nat.reduceEqDiff, Nat.reduceAdd, Nat.reduceLeDiff, finish_flat (d := .bool true) rfl (H2.mono (show n2 ≤ n2 + 1 by omega))]
      · rw [decide_eq_false (show ¬ (N = N' ∧ l = l') from fun e => q e.2)]
        simp (disch := first | assumption | omega | (simp (disch := first | assumption | omega) only [sB, Nat.reduceAdd, Nat.reduceLT, Nat.reduceLeDiff, Nat.reduceEqDiff, Nat.reduceMul, ↓reduceIte]; done) | fail) only [sA, ↓reduceIte, Nat.reduceLT, Nat.reduceEqDiff, Nat.reduceAdd, Nat.reduceLeDiff, q2, finish_flat (d := .bool false) rfl H2]
    · rw [decide_eq_false (show ¬ (N = N' ∧ l = l') from fun e => h2 (by rw [e.2]))]
      simp (disch := first | assumption | omega | (simp (disch := first | assumption | omega) only [sB, Nat.reduceAdd, Nat.reduceLT, Nat.reduceLeDiff, Nat.reduceEqDiff, Nat.reduceMul, ↓reduceIte]; done) | fail) only [sA, ↓reduceIte, Nat.reduceLT, Nat.reduceEqDiff, Nat.reduceAdd, Nat.reduceLeDiff, s1, s3, t1, t3]
  · rw [decide_eq_false (show ¬ (N = N' ∧ l = l') from fun e => h1 e.1)]
    simp (disch := first | assumption | omega | (simp (disch := first | assumption | omega) only [sB, Nat.reduceAdd, Nat.reduceLT, Nat.reduceLeDiff, Nat.reduceEqDiff, Nat.reduceMul, ↓reduceIte]; done) | fail) only [sA, ↓reduceIte, Nat.reduceLT, Nat.reduceEqDiff, Nat.reduceAdd, Nat.reduceLeDiff, s1, s3, t1, t3]
end Go.Proofs.Ytjagmfgjlfkmgaa

/- The reference's Suc and Max tell what the program's tell. No condition. -/
namespace Go.Proofs.Ytjagmfgjlfkmgaa
open Go

theorem flatR (x : Lev × Int) : flat ((D.tup [.agg [.int .i64 (x).1.n, slD 2 encV (Sl.app (x).1.v)], .int .i64 (x).2])) = true := by rw [flat_tup]; simp [flat2_agg, flat1_slD, flat1_int, flat2_int]
theorem told_of {a b : Lev} (h : a.norm = b.norm) : a.told = b.told := by unfold Lev.told; rw [h]
theorem more_zero {M : Lev} {k : Int} (hM : M.n = 0) (hv : M.v ≠ []) (hp : ∀ p, p ∈ M.v → 0 ≤ p.2) : (M.more k).told = (⟨0, (M.more k).v⟩ : Lev).told := by
  apply told_of
  unfold Lev.norm Lev.more
  simp only
  congr 1
  rw [hM, Int.zero_add]
  obtain ⟨p, t, hpt⟩ : ∃ p t, M.v = p :: t := by
    cases hh : M.v with
    | nil => exact absurd hh hv
    | cons p t => exact ⟨p, t, rfl⟩
  have hpm : p ∈ M.v := by rw [hpt]; simp
  have h0 := hp p hpm
  obtain ⟨q, hq, q1, q2⟩ := (nfL_nf (M.v.map (addV k))).cov (addV k p) (List.mem_map.2 ⟨p, hpm, rfl⟩)
  have hz : ∀ x : Int, x ≤ q.2 → zn x (nfL (M.v.map (addV k))) = 0 := by
    intro x hx
    unfold zn
    rw [if_pos (List.any_eq_true.2 ⟨q, hq, decide_eq_true hx⟩)]
  have hk : k ≤ q.2 := by
    have : (addV k p).2 = p.2 + k := rfl
    omega
  rw [hz k hk]
  unfold zn
  split <;> rfl

set_option maxHeartbeats 4000000 in
theorem refSuc (n : Nat) (h : Hps) (hg : ∀ k, n ≤ k → GoodAt k h) (N k : Int) (d : D) (l : List LV) (ad : Nat → D) (S : Sv 2 encV n h d l ad) (hs : l.length < 1000000000000) : callFn (LX (cF Go.Proofs.Try.prog)) n h [(D.agg [.int .i64 (N), d]), .int .i64 k] (cF Go.Proofs.Try.prog 43) = .ok (D.tup [.agg [.int .i64 (Lev.suc ⟨N, l⟩ k).1.n, slD 2 encV (Sl.app (Lev.suc ⟨N, l⟩ k).1.v)], .int .i64 (Lev.suc ⟨N, l⟩ k).2]) n h := by
  have s3 := S.okD
  have hgn := hg n (Nat.le_refl _)
  have H0 : Hp n h (n + 2) ((n + 1, (Ob.row 2 [.agg [.int .i64 0, .nils]])) :: (n, (Ob.row 2 [.agg [.int .i64 (N), d]])) :: h) := ((Hp.start hg).cons (r := n) (m := n + 1) (Nat.le_refl _) (by omega) (fun k hk => S.box2 (by omega))).box (m := n + 2) (r := n + 1) (by omega) (by omega) rfl
  have c0 : ∀ m, n + 2 ≤ m → callFn (LX (cF Go.Proofs.Try.prog)) m ((n + 1, (Ob.row 2 [.agg [.int .i64 0, .nils]])) :: (n, (Ob.row 2 [.agg [.int .i64 (N), d]])) :: h) [(D.agg [.int .i64 (N), d])] (cF Go.Proofs.Try.prog 37) = .ok (D.tup [.agg [.int .i64 (Lev.nrm ⟨N, l⟩).1.n, slD 2 encV (Sl.app (Lev.nrm ⟨N, l⟩).1.v)], .int .i64 (Lev.nrm ⟨N, l⟩).2]) m ((n + 1, (Ob.row 2 [.agg [.int .i64 0, .nils]])) :: (n, (Ob.row 2 [.agg [.int .i64 (N), d]])) :: h) := fun m hm => refNorm m _ (H0.good' hm) N d l ad (S.mono H0 hm) hs
  unfold Lev.suc
  by_cases hb : Lev.right ⟨N, l⟩ = true
  · rw [if_pos hb]
    rw [nrm_right hb] at c0
    have hr := right_iff.1 (right_norm hb)
    generalize hN : Lev.norm ⟨N, l⟩ = M at c0 hr ⊢
    obtain ⟨Mn, Mv⟩ := M
    obtain ⟨hMn, hlen, hMv⟩ := hr
    replace hlen : Mv.length ≤ 64 := hlen
    replace hMn : 0 ≤ Mn ∧ Mn ≤ 1000 := hMn
    by_cases k0 : k < 0
    · rw [if_pos k0]
      rw [f43_eq]; unfold c43; rw [callFn_eq (by rfl)]
      simp (disch := first | assumption | omega | (simp (disch := first | assumption | omega) only [sB, Nat.reduceAdd, Nat.reduceLT, Nat.reduceLeDiff, Nat.reduceEqDiff, Nat.reduceMul, ↓reduceIte]; done) | fail) only [sA, ↓reduceIte, Nat.reduceLT, Nat.reduceEqDiff, Nat.reduceAdd, Nat.reduceLeDiff, c0, s3, slD_nil]
    · rw [if_neg k0]
      by_cases k1 : 1000 < k
      · rw [if_pos k1]
        rw [f43_eq]; unfold c43; rw [callFn_eq (by rfl)]
        simp (disch := first | assumption | omega | (simp (disch := first | assumption | omega) only [sB, Nat.reduceAdd, Nat.reduceLT, Nat.reduceLeDiff, Nat.reduceEqDiff, Nat.reduceMul, ↓reduceIte]; done) | fail) only [sA, ↓reduceIte, Nat.reduceLT, Nat.reduceEqDiff, Nat.reduceAdd, Nat.reduceLeDiff, c0, s3, slD_nil]
      · rw [if_neg k1]
        have H1 : Hp n h (n + 2) ((n + 1, (Ob.row 2 [.agg [.int .i64 0, .nils]])) :: (n, (Ob.row 2 [.agg [.int .i64 (Mn), slD 2 encV (Sl.app Mv)]])) :: h) := ((Hp.start hg).box (r := n) (m := n + 1) (Nat.le_refl _) (by omega) (flatL ⟨Mn, Sl.app Mv⟩)).box (m := n + 2) (r := n + 1) (by omega) (by omega) rfl
        obtain ⟨K, hK1, hK2, hK3⟩ : ∃ K : Int, (0 ≤ K ∧ K < 4611686018427387904) ∧ (Lev.more ⟨Mn, Mv⟩ k).told = (⟨K, Mv.map (addV k)⟩ : Lev).told ∧ ((Mn = 0 ∧ 0 < Mv.length ∧ K = 0) ∨ (¬ (Mn = 0 ∧ 0 < Mv.length) ∧ K = Mn + k)) := by
          by_cases hz : Mn = 0 ∧ 0 < Mv.length
          · refine ⟨0, by omega, more_zero (M := ⟨Mn, Mv⟩) hz.1 (fun e => ?_) (fun p hp => (hMv p hp).2.1), .inl ⟨hz.1, hz.2, rfl⟩⟩
            replace e : Mv = [] := e
            rw [e] at hz; simp at hz
          · exact ⟨Mn + k, by omega, rfl, .inr ⟨hz, rfl⟩⟩
        rw [hK2]
        have loop : ∀ {q n0 : Nat} {e : Tr} {h' : Hps} {r : Re}, LX (cF Go.Proofs.Try.prog) (.loop l43_0) e n0 h' = r → n + 2 ≤ q → Hp n h n0 h' → q + 1 ≤ n0 → getO h' n = (Ob.row 2 [.agg [.int .i64 (Mn), slD 2 encV (Sl.app Mv)]]) → getO h' (n + 1) = (Ob.row 2 [.agg [.int .i64 0, .nils]]) → getO h' q = (Ob.row 2 [.agg [.int .i64 (K), .nils]]) → get (po 1) e = .int .i64 k → get (po 2) e = .ptr n 0 0 → get (po 4) e = .ptr (n + 1) 0 0 → get (po 7) e = .ptr q 0 0 → get (po 8) e = .int .i64 0 →
            ∃ x e n' h', r = .ok x e n' h' ∧ x = .exit 0 ∧ Hp n h n' h' ∧ q + 1 ≤ n' ∧ getO h' (n + 1) = (Ob.row 2 [.agg [.int .i64 0, .nils]]) ∧ ∃ dd, getO h' q = (Ob.row 2 [.agg [.int .i64 (K), dd]]) ∧ Bld 2 encV (q + 1) (Mv.map (addV k)) h' dd ∧ get (po 4) e = .ptr (n + 1) 0 0 ∧ get (po 7) e = .ptr q 0 0 := by
          intro q n0 e h' r hr hq H p1 b1 b2 b3 g1 g2 g4 g7 g8
          refine loop_up hr Mv.length
            (fun i e n' h' => Hp n h n' h' ∧ q + 1 ≤ n' ∧ getO h' n = (Ob.row 2 [.agg [.int .i64 (Mn), slD 2 encV (Sl.app Mv)]]) ∧ getO h' (n + 1) = (Ob.row 2 [.agg [.int .i64 0, .nils]]) ∧ ∃ dd, getO h' q = (Ob.row 2 [.agg [.int .i64 (K), dd]]) ∧ Bld 2 encV (q + 1) ((Mv.take i).map (addV k)) h' dd ∧ get (po 1) e = .int .i64 k ∧ get (po 2) e = .ptr n 0 0 ∧ get (po 4) e = .ptr (n + 1) 0 0 ∧ get (po 7) e = .ptr q 0 0 ∧ get (po 8) e = .int .i64 (i : Nat))
            (fun x e n' h' => x = .exit 0 ∧ Hp n h n' h' ∧ q + 1 ≤ n' ∧ getO h' (n + 1) = (Ob.row 2 [.agg [.int .i64 0, .nils]]) ∧ ∃ dd, getO h' q = (Ob.row 2 [.agg [.int .i64 (K), dd]]) ∧ Bld 2 encV (q + 1) (Mv.map (addV k)) h' dd ∧ get (po 4) e = .ptr (n + 1) 0 0 ∧ get (po 7) e = .ptr q 0 0)
            ?_ ?_ ⟨H, p1, b1, b2, .nils, b3, .inl ⟨rfl, rfl⟩, g1, g2, g4, g7, g8⟩
          · rintro e n' h' ⟨H, p1, b1, b2, dd, b3, B, g1, g2, g4, g7, g8⟩
            rw [List.take_length] at B
            unfold l43_0
            simp (disch := first | assumption | omega | (simp (disch := first | assumption | omega) only [sB, Nat.reduceAdd, Nat.reduceLT, Nat.reduceLeDiff, Nat.reduceEqDiff, Nat.reduceMul, ↓reduceIte]; done) | fail) only [sA, ↓reduceIte, Nat.reduceLT, Nat.reduceEqDiff, Nat.reduceAdd, Nat.reduceLeDiff, g2, g8, b1]
            exact ⟨_, _, _, _, rfl, by simp, rfl, H.mono (by omega), by omega, b2, dd, b3, B, by simp (disch := first | assumption | omega | (simp (disch := first | assumption | omega) only [sB, Nat.reduceAdd, Nat.reduceLT, Nat.reduceLeDiff, Nat.reduceEqDiff, Nat.reduceMul, ↓reduceIte]; done) | fail) only [sA, ↓reduceIte, Nat.reduceLT, Nat.reduceEqDiff, Nat.reduceAdd, Nat.reduceLeDiff, g4], by simp (disch := first | assumption | omega | (simp (disch := first | assumption | omega) only [sB, Nat.reduceAdd, Nat.reduceLT, Nat.reduceLeDiff, Nat.reduceEqDiff, Nat.reduceMul, ↓reduceIte]; done) | fail) only [sA, ↓reduceIte, Nat.reduceLT, Nat.reduceEqDiff, Nat.reduceAdd, Nat.reduceLeDiff, g7]⟩
          · rintro i e n' h' hi ⟨H, p1, b1, b2, dd, b3, B, g1, g2, g4, g7, g8⟩
            have hv := hMv Mv[i] (List.getElem_mem hi)
            obtain ⟨D', H', A⟩ := app_bldx (b := 16) B H (by omega) (by omega) lowV [addV k Mv[i]] (by simp; omega)
            have A1 := fun m hm => (A m hm).1
            have A2 := fun m hm => (A m hm).2.1
            have A3 := fun m hm => (A m hm).2.2.1
            have A4 := fun m hm => (A m hm).2.2.2.1
            simp only [encV, addV, List.map_cons, List.map_nil] at A1
            have hd1 := B.okD
            have hd2 : ∀ m, n' ≤ m → one (D' m) = true := fun m hm => (A2 m hm).one
            have hg3 : ∀ m, n' ≤ m → getO (H' m) q = (Ob.row 2 [.agg [.int .i64 (K), dd]]) := fun m hm => by rw [A4 m hm _ (by omega)]; exact b3
            have hi2 : i < (Sl.app Mv).el.length := hi
            unfold l43_0
            simp (disch := first | assumption | omega | (simp (disch := first | assumption | omega) only [sB, Nat.reduceAdd, Nat.reduceLT, Nat.reduceLeDiff, Nat.reduceEqDiff, Nat.reduceMul, ↓reduceIte, hd2]; done) | fail) only [sA, ↓reduceIte, Nat.reduceLT, Nat.reduceEqDiff, Nat.reduceAdd, Nat.reduceLeDiff, g1, g2, g4, g7, g8, app_el, encV, b1, b3, hd1, hg3, A1, hd2]
            refine ⟨_, _, _, _, rfl, .inl ⟨rfl, ((A3 _ (by omega)).set (r := q) (by omega) (fun k hk => (A2 _ (by omega)).box2 ((A3 _ (by omega)).good k hk))).mono (by omega), by omega, getO_set2 (hg3 _ (by omega)) ((A4 _ (by omega) _ (by omega)).trans b1) (by omega), getO_set2 (hg3 _ (by omega)) ((A4 _ (by omega) _ (by omega)).trans b2) (by omega), _, getO_set1 (hg3 _ (by omega)), ?_, by simp (disch := first | assumption | omega | (simp (disch := first | assumption | omega) only [sB, Nat.reduceAdd, Nat.reduceLT, Nat.reduceLeDiff, Nat.reduceEqDiff, Nat.reduceMul, ↓reduceIte]; done) | fail) only [sA, ↓reduceIte, Nat.reduceLT, Nat.reduceEqDiff, Nat.reduceAdd, Nat.reduceLeDiff, g1], by simp (disch := first | assumption | omega | (simp (disch := first | assumption | omega) only [sB, Nat.reduceAdd, Nat.reduceLT, Nat.reduceLeDiff, Nat.reduceEqDiff, Nat.reduceMul, ↓reduceIte]; done) | fail) only [sA, ↓reduceIte, Nat.reduceLT, Nat.reduceEqDiff, Nat.reduceAdd, Nat.reduceLeDiff, g2], by simp (disch := first | assumption | omega | (simp (disch := first | assumption | omega) only [sB, Nat.reduceAdd, Nat.reduceLT, Nat.reduceLeDiff, Nat.reduceEqDiff, Nat.reduceMul, ↓reduceIte]; done) | fail) only [sA, ↓reduceIte, Nat.reduceLT, Nat.reduceEqDiff, Nat.reduceAdd, Nat.reduceLeDiff, g4], by simp (disch := first | assumption | omega | (simp (disch := first | assumption | omega) only [sB, Nat.reduceAdd, Nat.reduceLT, Nat.reduceLeDiff, Nat.reduceEqDiff, Nat.reduceMul, ↓reduceIte]; done) | fail) only [sA, ↓reduceIte, Nat.reduceLT, Nat.reduceEqDiff, Nat.reduceAdd, Nat.reduceLeDiff, g7], by simp (disch := first | assumption | omega | (simp (disch := first | assumption | omega) only [sB, Nat.reduceAdd, Nat.reduceLT, Nat.reduceLeDiff, Nat.reduceEqDiff, Nat.reduceMul, ↓reduceIte]; done) | fail) only [sA, ↓reduceIte, Nat.reduceLT, Nat.reduceEqDiff, Nat.reduceAdd, Nat.reduceLeDiff]⟩⟩
            rw [take_snoc hi, List.map_append]
            exact (A2 _ (by omega)).set (hg3 _ (by omega)) (by omega)
        have final : ∀ {q n2 : Nat} {h2 : Hps} {dd : D}, n + 2 ≤ q → Hp n h n2 h2 → q + 1 ≤ n2 → Bld 2 encV (q + 1) (Mv.map (addV k)) h2 dd → ∀ m, n2 ≤ m → callFn (LX (cF Go.Proofs.Try.prog)) m h2 [(D.agg [.int .i64 (K), dd])] (cF Go.Proofs.Try.prog 77) = .ok (D.tup [.agg [.int .i64 (Lev.told ⟨K, Mv.map (addV k)⟩).1.n, slD 2 encV (Sl.app (Lev.told ⟨K, Mv.map (addV k)⟩).1.v)], .int .i64 (Lev.told ⟨K, Mv.map (addV k)⟩).2]) m h2 := by
          intro q n2 h2 dd hq H2 p2 B2 m hm
          obtain ⟨ad2, S2⟩ := B2.sv (H2.good n2 (Nat.le_refl _)) aggV
          refine refFits m h2 (H2.good' hm) K dd (Mv.map (addV k)) ad2 (S2.mono (Hp.start (H2.good' (Nat.le_refl _))) hm) (by rw [List.length_map]; omega) (fun p hp => ?_) hK1
          obtain ⟨p', hp', rfl⟩ := List.mem_map.1 hp
          have := hMv p' hp'
          exact ⟨this.1.1, by show 0 ≤ p'.2 + k; omega⟩
        generalize hR : Lev.told ⟨K, Mv.map (addV k)⟩ = R at final ⊢
        rcases hK3 with ⟨z1, z2, z3⟩ | ⟨z1, z3⟩
        · subst z3
          rw [f43_eq]; unfold c43; rw [callFn_eq (by rfl)]
          simp (disch := first | assumption | omega | (simp (disch := first | assumption | omega) only [sB, Nat.reduceAdd, Nat.reduceLT, Nat.reduceLeDiff, Nat.reduceEqDiff, Nat.reduceMul, ↓reduceIte]; done) | fail) only [sA, ↓reduceIte, Nat.reduceLT, Nat.reduceEqDiff, Nat.reduceAdd, Nat.reduceLeDiff, c0, s3]
          generalize hr : LX (cF Go.Proofs.Try.prog) (.loop l43_0) _ _ _ = r
          obtain ⟨x, e2, n2, h2, rfl, rfl, H2, p2, b2, dd, b3, B2, g4, g7⟩ := loop hr (q := n + 22) (by omega) ((H1.box (r := n + 22) (m := n + 23) (by omega) (by omega) rfl).mono (by omega)) (by omega) (by simp (disch := first | assumption | omega | (simp (disch := first | assumption | omega) only [sB, Nat.reduceAdd, Nat.reduceLT, Nat.reduceLeDiff, Nat.reduceEqDiff, Nat.reduceMul, ↓reduceIte]; done) | fail) only [sA, ↓reduceIte, Nat.reduceLT, Nat.reduceEqDiff, Nat.reduceAdd, Nat.reduceLeDiff]) (by simp (disch := first | assumption | omega | (simp (disch := first | assumption | omega) only [sB, Nat.reduceAdd, Nat.reduceLT, Nat.reduceLeDiff, Nat.reduceEqDiff, Nat.reduceMul, ↓reduceIte]; done) | fail) only [sA, ↓reduceIte, Nat.reduceLT, Nat.reduceEqDiff, Nat.reduceAdd, Nat.reduceLeDiff]) (by simp (disch := first | assumption | omega | (simp (disch := first | assumption | omega) only [sB, Nat.reduceAdd, Nat.reduceLT, Nat.reduceLeDiff, Nat.reduceEqDiff, Nat.reduceMul, ↓reduceIte]; done) | fail) only [sA, ↓reduceIte, Nat.reduceLT, Nat.reduceEqDiff, Nat.reduceAdd, Nat.reduceLeDiff]) (by simp (disch := first | assumption | omega | (simp (disch := first | assumption | omega) only [sB, Nat.reduceAdd, Nat.reduceLT, Nat.reduceLeDiff, Nat.reduceEqDiff, Nat.reduceMul, ↓reduceIte]; done) | fail) only [sA, ↓reduceIte, Nat.reduceLT, Nat.reduceEqDiff, Nat.reduceAdd, Nat.reduceLeDiff]) (by simp (disch := first | assumption | omega | (simp (disch := first | assumption | omega) only [sB, Nat.reduceAdd, Nat.reduceLT, Nat.reduceLeDiff, Nat.reduceEqDiff, Nat.reduceMul, ↓reduceIte]; done) | fail) only [sA, ↓reduceIte, Nat.reduceLT, Nat.reduceEqDiff, Nat.reduceAdd, Nat.reduceLeDiff]) (by simp (disch := first | assumption | omega | (simp (disch := first | assumption | omega) only [sB, Nat.reduceAdd, Nat.reduceLT, Nat.reduceLeDiff, Nat.reduceEqDiff, Nat.reduceMul, ↓reduceIte]; done) | fail) only [sA, ↓reduceIte, Nat.reduceLT, Nat.reduceEqDiff, Nat.reduceAdd, Nat.reduceLeDiff]) (by simp (disch := first | assumption | omega | (simp (disch := first | assumption | omega) only [sB, Nat.reduceAdd, Nat.reduceLT, Nat.reduceLeDiff, Nat.reduceEqDiff, Nat.reduceMul, ↓reduceIte]; done) | fail) only [sA, ↓reduceIte, Nat.reduceLT, Nat.reduceEqDiff, Nat.reduceAdd, Nat.reduceLeDiff]) (by simp (disch := first | assumption | omega | (simp (disch := first | assumption | omega) only [sB, Nat.reduceAdd, Nat.reduceLT, Nat.reduceLeDiff, Nat.reduceEqDiff, Nat.reduceMul, ↓reduceIte]; done) | fail) only [sA, ↓reduceIte, Nat.reduceLT, Nat.reduceEqDiff, Nat.reduceAdd, Nat.reduceLeDiff])
          have c3 := final (by omega) H2 p2 B2
          have hod := B2.okD
          obtain ⟨⟨Rn, Rv⟩, Re⟩ := R
          have F4 := fun m hm => finish_flat (flatR (⟨Rn, Rv⟩, Re)) ((H2.set (r := n + 1) (x := (Ob.row 2 [.agg [.int .i64 (Rn), slD 2 encV (Sl.app Rv)]])) (by omega) (fun q _ => lowO_one (low_flat (flatL ⟨Rn, Sl.app Rv⟩)))).mono (m := m) hm)
          have b4 : getO (setO h2 (n + 1) (Ob.row 2 [.agg [.int .i64 (Rn), slD 2 encV (Sl.app Rv)]])) (n + 1) = (Ob.row 2 [.agg [.int .i64 (Rn), slD 2 encV (Sl.app Rv)]]) := getO_set1 b2
          simp (disch := first | assumption | omega | (simp (disch := first | assumption | omega) only [sB, Nat.reduceAdd, Nat.reduceLT, Nat.reduceLeDiff, Nat.reduceEqDiff, Nat.reduceMul, ↓reduceIte]; done) | fail) only [sA, ↓reduceIte, Nat.reduceLT, Nat.reduceEqDiff, Nat.reduceAdd, Nat.reduceLeDiff, g4, g7, b2, b3, b4, hod, c3, F4]
        · subst z3
          by_cases z4 : Mn = 0
          · have z5 : ¬ 0 < Mv.length := fun h => z1 ⟨z4, h⟩
            rw [f43_eq]; unfold c43; rw [callFn_eq (by rfl)]
            simp (disch := first | assumption | omega | (simp (disch := first | assumption | omega) only [sB, Nat.reduceAdd, Nat.reduceLT, Nat.reduceLeDiff, Nat.reduceEqDiff, Nat.reduceMul, ↓reduceIte]; done) | fail) only [sA, ↓reduceIte, Nat.reduceLT, Nat.reduceEqDiff, Nat.reduceAdd, Nat.reduceLeDiff, c0, s3]
            generalize hr : LX (cF Go.Proofs.Try.prog) (.loop l43_0) _ _ _ = r
            obtain ⟨x, e2, n2, h2, rfl, rfl, H2, p2, b2, dd, b3, B2, g4, g7⟩ := loop hr (q := n + 22) (by omega) ((H1.box (r := n + 22) (m := n + 23) (by omega) (by omega) rfl).mono (by omega)) (by omega) (by simp (disch := first | assumption | omega | (simp (disch := first | assumption | omega) only [sB, Nat.reduceAdd, Nat.reduceLT, Nat.reduceLeDiff, Nat.reduceEqDiff, Nat.reduceMul, ↓reduceIte]; done) | fail) only [sA, ↓reduceIte, Nat.reduceLT, Nat.reduceEqDiff, Nat.reduceAdd, Nat.reduceLeDiff]) (by simp (disch := first | assumption | omega | (simp (disch := first | assumption | omega) only [sB, Nat.reduceAdd, Nat.reduceLT, Nat.reduceLeDiff, Nat.reduceEqDiff, Nat.reduceMul, ↓reduceIte]; done) | fail) only [sA, ↓reduceIte, Nat.reduceLT, Nat.reduceEqDiff, Nat.reduceAdd, Nat.reduceLeDiff]) (by simp (disch := first | assumption | omega | (simp (disch := first | assumption | omega) only [sB, Nat.reduceAdd, Nat.reduceLT, Nat.reduceLeDiff, Nat.reduceEqDiff, Nat.reduceMul, ↓reduceIte]; done) | fail) only [sA, ↓reduceIte, Nat.reduceLT, Nat.reduceEqDiff, Nat.reduceAdd, Nat.reduceLeDiff]) (by simp (disch := first | assumption | omega | (simp (disch := first | assumption | omega) only [sB, Nat.reduceAdd, Nat.reduceLT, Nat.reduceLeDiff, Nat.reduceEqDiff, Nat.reduceMul, ↓reduceIte]; done) | fail) only [sA, ↓reduceIte, Nat.reduceLT, Nat.reduceEqDiff, Nat.reduceAdd, Nat.reduceLeDiff]) (by simp (disch := first | assumption | omega | (simp (disch := first | assumption | omega) only [sB, Nat.reduceAdd, Nat.reduceLT, Nat.reduceLeDiff, Nat.reduceEqDiff, Nat.reduceMul, ↓reduceIte]; done) | fail) only [sA, ↓reduceIte, Nat.reduceLT, Nat.reduceEqDiff, Nat.reduceAdd, Nat.reduceLeDiff]) (by simp (disch := first | assumption | omega | (simp (disch := first | assumption | omega) only [sB, Nat.reduceAdd, Nat.reduceLT, Nat.reduceLeDiff, Nat.reduceEqDiff, Nat.reduceMul, ↓reduceIte]; done) | fail) only [sA, ↓reduceIte, Nat.reduceLT, Nat.reduceEqDiff, Nat.reduceAdd, Nat.reduceLeDiff]) (by simp (disch := first | assumption | omega | (simp (disch := first | assumption | omega) only [sB, Nat.reduceAdd, Nat.reduceLT, Nat.reduceLeDiff, Nat.reduceEqDiff, Nat.reduceMul, ↓reduceIte]; done) | fail) only [sA, ↓reduceIte, Nat.reduceLT, Nat.reduceEqDiff, Nat.reduceAdd, Nat.reduceLeDiff]) (by simp (disch := first | assumption | omega | (simp (disch := first | assumption | omega) only [sB, Nat.reduceAdd, Nat.reduceLT, Nat.reduceLeDiff, Nat.reduceEqDiff, Nat.reduceMul, ↓reduceIte]; done) | fail) only [sA, ↓reduceIte, Nat.reduceLT, Nat.reduceEqDiff, Nat.reduceAdd, Nat.reduceLeDiff])
            have c3 := final (by omega) H2 p2 B2
            have hod := B2.okD
            obtain ⟨⟨Rn, Rv⟩, Re⟩ := R
            have F4 := fun m hm => finish_flat (flatR (⟨Rn, Rv⟩, Re)) ((H2.set (r := n + 1) (x := (Ob.row 2 [.agg [.int .i64 (Rn), slD 2 encV (Sl.app Rv)]])) (by omega) (fun q _ => lowO_one (low_flat (flatL ⟨Rn, Sl.app Rv⟩)))).mono (m := m) hm)
            have b4 : getO (setO h2 (n + 1) (Ob.row 2 [.agg [.int .i64 (Rn), slD 2 encV (Sl.app Rv)]])) (n + 1) = (Ob.row 2 [.agg [.int .i64 (Rn), slD 2 encV (Sl.app Rv)]]) := getO_set1 b2
            simp (disch := first | assumption | omega | (simp (disch := first | assumption | omega) only [sB, Nat.reduceAdd, Nat.reduceLT, Nat.reduceLeDiff, Nat.reduceEqDiff, Nat.reduceMul, ↓reduceIte]; done) | fail) only [sA, ↓reduceIte, Nat.reduceLT, Nat.reduceEqDiff, Nat.reduceAdd, Nat.reduceLeDiff, g4, g7, b2, b3, b4, hod, c3, F4]
          · rw [f43_eq]; unfold c43; rw [callFn_eq (by rfl)]
            simp (disch := first | assumption | omega | (simp (disch := first | assumption | omega) only [sB, Nat.reduceAdd, Nat.reduceLT, Nat.reduceLeDiff, Nat.reduceEqDiff, Nat.reduceMul, ↓reduceIte]; done) | fail) only [sA, ↓reduceIte, Nat.reduceLT, Nat.reduceEqDiff, Nat.reduceAdd, Nat.reduceLeDiff, c0, s3]
            generalize hr : LX (cF Go.Proofs.Try.prog) (.loop l43_0) _ _ _ = r
            obtain ⟨x, e2, n2, h2, rfl, rfl, H2, p2, b2, dd, b3, B2, g4, g7⟩ := loop hr (q := n + 22) (by omega) ((H1.box (r := n + 22) (m := n + 23) (by omega) (by omega) rfl).mono (by omega)) (by omega) (by simp (disch := first | assumption | omega | (simp (disch := first | assumption | omega) only [sB, Nat.reduceAdd, Nat.reduceLT, Nat.reduceLeDiff, Nat.reduceEqDiff, Nat.reduceMul, ↓reduceIte]; done) | fail) only [sA, ↓reduceIte, Nat.reduceLT, Nat.reduceEqDiff, Nat.reduceAdd, Nat.reduceLeDiff]) (by simp (disch := first | assumption | omega | (simp (disch := first | assumption | omega) only [sB, Nat.reduceAdd, Nat.reduceLT, Nat.reduceLeDiff, Nat.reduceEqDiff, Nat.reduceMul, ↓reduceIte]; done) | fail) only [sA, ↓reduceIte, Nat.reduceLT, Nat.reduceEqDiff, Nat.reduceAdd, Nat.reduceLeDiff]) (by simp (disch := first | assumption | omega | (simp (disch := first | assumption | omega) only [sB, Nat.reduceAdd, Nat.reduceLT, Nat.reduceLeDiff, Nat.reduceEqDiff, Nat.reduceMul, ↓reduceIte]; done) | fail) only [sA, ↓reduceIte, Nat.reduceLT, Nat.reduceEqDiff, Nat.reduceAdd, Nat.reduceLeDiff]) (by simp (disch := first | assumption | omega | (simp (disch := first | assumption | omega) only [sB, Nat.reduceAdd, Nat.reduceLT, Nat.reduceLeDiff, Nat.reduceEqDiff, Nat.reduceMul, ↓reduceIte]; done) | fail) only [sA, ↓reduceIte, Nat.reduceLT, Nat.reduceEqDiff, Nat.reduceAdd, Nat.reduceLeDiff]) (by simp (disch := first | assumption | omega | (simp (disch := first | assumption | omega) only [sB, Nat.reduceAdd, Nat.reduceLT, Nat.reduceLeDiff, Nat.reduceEqDiff, Nat.reduceMul, ↓reduceIte]; done) | fail) only [sA, ↓reduceIte, Nat.reduceLT, Nat.reduceEqDiff, Nat.reduceAdd, Nat.reduceLeDiff]) (by simp (disch := first | assumption | omega | (simp (disch := first | assumption | omega) only [sB, Nat.reduceAdd, Nat.reduceLT, Nat.reduceLeDiff, Nat.reduceEqDiff, Nat.reduceMul, ↓reduceIte]; done) | fail) only [sA, ↓reduceIte, Nat.reduceLT, Nat.reduceEqDiff, Nat.reduceAdd, Nat.reduceLeDiff]) (by simp (disch := first | assumption | omega | (simp (disch := first | assumption | omega) only [sB, Nat.reduceAdd, Nat.reduceLT, Nat.reduceLeDiff, Nat.reduceEqDiff, Nat.reduceMul, ↓reduceIte]; done) | fail) only [sA, ↓reduceIte, Nat.reduceLT, Nat.reduceEqDiff, Nat.reduceAdd, Nat.reduceLeDiff]) (by simp (disch := first | assumption | omega | (simp (disch := first | assumption | omega) only [sB, Nat.reduceAdd, Nat.reduceLT, Nat.reduceLeDiff, Nat.reduceEqDiff, Nat.reduceMul, ↓reduceIte]; done) | fail) only [sA, ↓reduceIte, Nat.reduceLT, Nat.reduceEqDiff, Nat.reduceAdd, Nat.reduceLeDiff])
            have c3 := final (by omega) H2 p2 B2
            have hod := B2.okD
            obtain ⟨⟨Rn, Rv⟩, Re⟩ := R
            have F4 := fun m hm => finish_flat (flatR (⟨Rn, Rv⟩, Re)) ((H2.set (r := n + 1) (x := (Ob.row 2 [.agg [.int .i64 (Rn), slD 2 encV (Sl.app Rv)]])) (by omega) (fun q _ => lowO_one (low_flat (flatL ⟨Rn, Sl.app Rv⟩)))).mono (m := m) hm)
            have b4 : getO (setO h2 (n + 1) (Ob.row 2 [.agg [.int .i64 (Rn), slD 2 encV (Sl.app Rv)]])) (n + 1) = (Ob.row 2 [.agg [.int .i64 (Rn), slD 2 encV (Sl.app Rv)]]) := getO_set1 b2
            simp (disch := first | assumption | omega | (simp (disch := first | assumption | omega) only [sB, Nat.reduceAdd, Nat.reduceLT, Nat.reduceLeDiff, Nat.reduceEqDiff, Nat.reduceMul, ↓reduceIte]; done) | fail) only [sA, ↓reduceIte, Nat.reduceLT, Nat.reduceEqDiff, Nat.reduceAdd, Nat.reduceLeDiff, g4, g7, b2, b3, b4, hod, c3, F4]
  · rw [if_neg hb]
    rw [nrm_wrong hb] at c0
    rw [f43_eq]; unfold c43; rw [callFn_eq (by rfl)]
    simp (disch := first | assumption | omega | (simp (disch := first | assumption | omega) only [sB, Nat.reduceAdd, Nat.reduceLT, Nat.reduceLeDiff, Nat.reduceEqDiff, Nat.reduceMul, ↓reduceIte]; done) | fail) only [sA, ↓reduceIte, Nat.reduceLT, Nat.reduceEqDiff, Nat.reduceAdd, Nat.reduceLeDiff, c0, s3, slD_nil]
end Go.Proofs.Ytjagmfgjlfkmgaa

/- The reference's Max tells what the program's tells. No condition. -/
namespace Go.Proofs.Ytjagmfgjlfkmgaa
open Go

theorem join_norm {M M' : Lev} (h : Srt M.v) (h' : Srt M'.v) : (M.join M').told = (⟨max M.n M'.n, M.v ++ M'.v⟩ : Lev).told := by
  apply told_of
  unfold Lev.norm Lev.join
  simp only
  have : nfL (merge M.v M'.v) = nfL (M.v ++ M'.v) := (nfL_eq ((merge_nf h h').trans (nfL_nf _))).symm
  rw [this]

set_option maxHeartbeats 4000000 in
theorem refMax (n : Nat) (h : Hps) (hg : ∀ k, n ≤ k → GoodAt k h) (N N' : Int) (d d' : D) (l l' : List LV) (ad ad' : Nat → D) (S : Sv 2 encV n h d l ad) (S' : Sv 2 encV n h d' l' ad') (hs : l.length < 1000000000000) (hs' : l'.length < 1000000000000) :
    callFn (LX (cF Go.Proofs.Try.prog)) n h [(D.agg [.int .i64 (N), d]), (D.agg [.int .i64 (N'), d'])] (cF Go.Proofs.Try.prog 44) = .ok (D.tup [.agg [.int .i64 (Lev.max2 ⟨N, l⟩ ⟨N', l'⟩).1.n, slD 2 encV (Sl.app (Lev.max2 ⟨N, l⟩ ⟨N', l'⟩).1.v)], .int .i64 (Lev.max2 ⟨N, l⟩ ⟨N', l'⟩).2]) n h := by
  have hgn := hg n (Nat.le_refl _)
  have s3 := S.okD
  have s3' := S'.okD
  have H0 : Hp n h (n + 3) ((n + 2, (Ob.row 2 [.agg [.int .i64 0, .nils]])) :: (n + 1, (Ob.row 2 [.agg [.int .i64 (N'), d']])) :: (n, (Ob.row 2 [.agg [.int .i64 (N), d]])) :: h) := (((Hp.start hg).cons (r := n) (m := n + 1) (Nat.le_refl _) (by omega) (fun k hk => S.box2 (by omega))).cons (m := n + 2) (r := n + 1) (by omega) (by omega) (fun k hk => S'.box2 (by omega))).box (m := n + 3) (r := n + 2) (by omega) (by omega) rfl
  have c0 : ∀ m, n + 3 ≤ m → callFn (LX (cF Go.Proofs.Try.prog)) m ((n + 2, (Ob.row 2 [.agg [.int .i64 0, .nils]])) :: (n + 1, (Ob.row 2 [.agg [.int .i64 (N'), d']])) :: (n, (Ob.row 2 [.agg [.int .i64 (N), d]])) :: h) [(D.agg [.int .i64 (N), d])] (cF Go.Proofs.Try.prog 37) = .ok (D.tup [.agg [.int .i64 (Lev.nrm ⟨N, l⟩).1.n, slD 2 encV (Sl.app (Lev.nrm ⟨N, l⟩).1.v)], .int .i64 (Lev.nrm ⟨N, l⟩).2]) m ((n + 2, (Ob.row 2 [.agg [.int .i64 0, .nils]])) :: (n + 1, (Ob.row 2 [.agg [.int .i64 (N'), d']])) :: (n, (Ob.row 2 [.agg [.int .i64 (N), d]])) :: h) := fun m hm => refNorm m _ (H0.good' hm) N d l ad (S.mono H0 hm) hs
  have H1 : ∀ Mn Mv, Hp n h (n + 3) ((n + 2, (Ob.row 2 [.agg [.int .i64 0, .nils]])) :: (n + 1, (Ob.row 2 [.agg [.int .i64 (N'), d']])) :: (n, (Ob.row 2 [.agg [.int .i64 (Mn), slD 2 encV (Sl.app Mv)]])) :: h) := fun Mn Mv => (((Hp.start hg).box (r := n) (m := n + 1) (Nat.le_refl _) (by omega) (flatL ⟨Mn, Sl.app Mv⟩)).cons (m := n + 2) (r := n + 1) (by omega) (by omega) (fun k hk => S'.box2 (by omega))).box (m := n + 3) (r := n + 2) (by omega) (by omega) rfl
  have c1 : ∀ Mn Mv m, n + 3 ≤ m → callFn (LX (cF Go.Proofs.Try.prog)) m ((n + 2, (Ob.row 2 [.agg [.int .i64 0, .nils]])) :: (n + 1, (Ob.row 2 [.agg [.int .i64 (N'), d']])) :: (n, (Ob.row 2 [.agg [.int .i64 (Mn), slD 2 encV (Sl.app Mv)]])) :: h) [(D.agg [.int .i64 (N'), d'])] (cF Go.Proofs.Try.prog 37) = .ok (D.tup [.agg [.int .i64 (Lev.nrm ⟨N', l'⟩).1.n, slD 2 encV (Sl.app (Lev.nrm ⟨N', l'⟩).1.v)], .int .i64 (Lev.nrm ⟨N', l'⟩).2]) m ((n + 2, (Ob.row 2 [.agg [.int .i64 0, .nils]])) :: (n + 1, (Ob.row 2 [.agg [.int .i64 (N'), d']])) :: (n, (Ob.row 2 [.agg [.int .i64 (Mn), slD 2 encV (Sl.app Mv)]])) :: h) := fun Mn Mv m hm => refNorm m _ ((H1 Mn Mv).good' hm) N' d' l' ad' (S'.mono (H1 Mn Mv) hm) hs'
  unfold Lev.max2
  by_cases hb : Lev.right ⟨N, l⟩ = true
  · rw [if_pos hb]
    rw [nrm_right hb] at c0
    have hr := right_iff.1 (right_norm hb)
    have hsrt : Srt (Lev.norm ⟨N, l⟩).v := (nfL_nf l).srt
    generalize hM : Lev.norm ⟨N, l⟩ = M at c0 hr hsrt ⊢
    obtain ⟨Mn, Mv⟩ := M
    obtain ⟨hMn, hlen, hMv⟩ := hr
    replace hlen : Mv.length ≤ 64 := hlen
    replace hMn : 0 ≤ Mn ∧ Mn ≤ 1000 := hMn
    replace c1 := c1 Mn Mv
    by_cases hb' : Lev.right ⟨N', l'⟩ = true
    · rw [if_pos hb']
      rw [nrm_right hb'] at c1
      have hr' := right_iff.1 (right_norm hb')
      have hsrt' : Srt (Lev.norm ⟨N', l'⟩).v := (nfL_nf l').srt
      generalize hM' : Lev.norm ⟨N', l'⟩ = M' at c1 hr' hsrt' ⊢
      rw [join_norm hsrt hsrt']
      obtain ⟨Mn', Mv'⟩ := M'
      obtain ⟨hMn', hlen', hMv'⟩ := hr'
      replace hlen' : Mv'.length ≤ 64 := hlen'
      replace hMn' : 0 ≤ Mn' ∧ Mn' ≤ 1000 := hMn'
      have H2 : Hp n h (n + 3) ((n + 2, (Ob.row 2 [.agg [.int .i64 0, .nils]])) :: (n + 1, (Ob.row 2 [.agg [.int .i64 (Mn'), slD 2 encV (Sl.app Mv')]])) :: (n, (Ob.row 2 [.agg [.int .i64 (Mn), slD 2 encV (Sl.app Mv)]])) :: h) := (((Hp.start hg).box (r := n) (m := n + 1) (Nat.le_refl _) (by omega) (flatL ⟨Mn, Sl.app Mv⟩)).box (m := n + 2) (r := n + 1) (by omega) (by omega) (flatL ⟨Mn', Sl.app Mv'⟩)).box (m := n + 3) (r := n + 2) (by omega) (by omega) rfl
      obtain ⟨D1, H1', A⟩ := app_bldx (k := 2) (b := 16) (n1 := n + 3) (l := ([] : List LV)) (d := .nils) (.inl ⟨rfl, rfl⟩) H2 (by omega) (by omega) lowV Mv (by simp; omega)
      have E1 := fun m hm => (A m hm).1
      obtain ⟨_, B1, P1, G1, _⟩ := A (n + 4398046511130) (by omega)
      obtain ⟨D2, H2', A'⟩ := app_bldx (b := 16) B1 P1 (by omega) (by omega) lowV Mv' (by simp; omega)
      have E2 := fun m hm => (A' m hm).1
      obtain ⟨_, B2, P2, G2, _⟩ := A' (n + 7696581394458) (by omega)
      rw [List.nil_append] at B2
      have hm1 : ∀ q, (n + 4398046511130) + 1 ≤ q → memN q (refO (D1 (n + 4398046511130))) = false := fun q hq => memN_low (fun f => B1.lowF (P1.good _ (Nat.le_refl _)) f) hq
      have o1 := B1.okD
      have o2 := B2.okD
      have x2 := B2.cellsX
      have w1 : getO (H1' (n + 4398046511130)) (n + 1) = (Ob.row 2 [.agg [.int .i64 (Mn'), slD 2 encV (Sl.app Mv')]]) := by rw [G1 _ (by omega)]; simp (disch := first | assumption | omega | (simp (disch := first | assumption | omega) only [sB, Nat.reduceAdd, Nat.reduceLT, Nat.reduceLeDiff, Nat.reduceEqDiff, Nat.reduceMul, ↓reduceIte]; done) | fail) only [sA, ↓reduceIte, Nat.reduceLT, Nat.reduceEqDiff, Nat.reduceAdd, Nat.reduceLeDiff]
      have hlow : ∀ q, q < n + 3 → getO (H2' (n + 7696581394458)) q = getO ((n + 2, (Ob.row 2 [.agg [.int .i64 0, .nils]])) :: (n + 1, (Ob.row 2 [.agg [.int .i64 (Mn'), slD 2 encV (Sl.app Mv')]])) :: (n, (Ob.row 2 [.agg [.int .i64 (Mn), slD 2 encV (Sl.app Mv)]])) :: h) q := fun q hq => by rw [G2 q hq, G1 q hq]
      have w2 : getO (H2' (n + 7696581394458)) (n + 1) = (Ob.row 2 [.agg [.int .i64 (Mn'), slD 2 encV (Sl.app Mv')]]) := by rw [hlow _ (by omega)]; simp (disch := first | assumption | omega | (simp (disch := first | assumption | omega) only [sB, Nat.reduceAdd, Nat.reduceLT, Nat.reduceLeDiff, Nat.reduceEqDiff, Nat.reduceMul, ↓reduceIte]; done) | fail) only [sA, ↓reduceIte, Nat.reduceLT, Nat.reduceEqDiff, Nat.reduceAdd, Nat.reduceLeDiff]
      have w3 : getO (H2' (n + 7696581394458)) (n + 2) = (Ob.row 2 [.agg [.int .i64 0, .nils]]) := by rw [hlow _ (by omega)]; simp (disch := first | assumption | omega | (simp (disch := first | assumption | omega) only [sB, Nat.reduceAdd, Nat.reduceLT, Nat.reduceLeDiff, Nat.reduceEqDiff, Nat.reduceMul, ↓reduceIte]; done) | fail) only [sA, ↓reduceIte, Nat.reduceLT, Nat.reduceEqDiff, Nat.reduceAdd, Nat.reduceLeDiff]
      have dj : disj (refO (D1 (n + 4398046511130))) [n] = true := B1.disj (by omega)
      have HX : ∀ K : Int, Hp n h ((n + 9895604650010) + 1) (((n + 9895604650010), (Ob.row 2 [.agg [.int .i64 (K), D2 (n + 7696581394458)]])) :: H2' (n + 7696581394458)) := fun K => P2.cons (by omega) (by omega) (fun k hk => B2.box2 (P2.good k (by omega)))
      have BX : ∀ K : Int, Bld 2 encV (n + 3) (Mv ++ Mv') (((n + 9895604650010), (Ob.row 2 [.agg [.int .i64 (K), D2 (n + 7696581394458)]])) :: H2' (n + 7696581394458)) (D2 (n + 7696581394458)) := fun K => B2.cons (P2.good _ (Nat.le_refl _)) (by omega)
      have c3 : ∀ K m, 0 ≤ K → K ≤ 1000 → (n + 9895604650010) + 1 ≤ m → callFn (LX (cF Go.Proofs.Try.prog)) m (((n + 9895604650010), (Ob.row 2 [.agg [.int .i64 (K), D2 (n + 7696581394458)]])) :: H2' (n + 7696581394458)) [(D.agg [.int .i64 (K), D2 (n + 7696581394458)])] (cF Go.Proofs.Try.prog 77) = .ok (D.tup [.agg [.int .i64 (Lev.told ⟨K, Mv ++ Mv'⟩).1.n, slD 2 encV (Sl.app (Lev.told ⟨K, Mv ++ Mv'⟩).1.v)], .int .i64 (Lev.told ⟨K, Mv ++ Mv'⟩).2]) m (((n + 9895604650010), (Ob.row 2 [.agg [.int .i64 (K), D2 (n + 7696581394458)]])) :: H2' (n + 7696581394458)) := by
        intro K m hK0 hK1 hm
        obtain ⟨ad2, S2⟩ := (BX K).sv ((HX K).good ((n + 9895604650010) + 1) (Nat.le_refl _)) aggV
        refine refFits m _ ((HX K).good' hm) K _ (Mv ++ Mv') ad2 (S2.mono (Hp.start ((HX K).good' (Nat.le_refl _))) hm) (by rw [List.length_append]; omega) (fun p hp => ?_) (by omega)
        rcases List.mem_append.1 hp with hp | hp
        · have := hMv p hp; exact ⟨this.1.1, this.2.1⟩
        · have := hMv' p hp; exact ⟨this.1.1, this.2.1⟩
      have fin : ∀ K : Int, K = max Mn Mn' → ∀ R, Lev.told ⟨K, Mv ++ Mv'⟩ = R → Lev.told ⟨max Mn Mn', Mv ++ Mv'⟩ = R := fun K hK R hR => hK ▸ hR
      by_cases hc : Mn < Mn'
      · rw [show max (Lev.mk Mn Mv).n (Lev.mk Mn' Mv').n = Mn' from Int.max_eq_right (Int.le_of_lt hc)]
        show _ = Rd.ok (D.tup [.agg [.int .i64 (Lev.told ⟨Mn', Mv ++ Mv'⟩).1.n, slD 2 encV (Sl.app (Lev.told ⟨Mn', Mv ++ Mv'⟩).1.v)], .int .i64 (Lev.told ⟨Mn', Mv ++ Mv'⟩).2]) n h
        have c3 := fun m hm => c3 Mn' m hMn'.1 hMn'.2 hm
        generalize hR : Lev.told ⟨Mn', Mv ++ Mv'⟩ = R at c3 ⊢
        obtain ⟨⟨Rn, Rv⟩, Re⟩ := R
        have F4 := fun m hm => finish_flat (flatR (⟨Rn, Rv⟩, Re)) (((HX Mn').set (r := n + 2) (x := (Ob.row 2 [.agg [.int .i64 (Rn), slD 2 encV (Sl.app Rv)]])) (by omega) (fun q _ => lowO_one (low_flat (flatL ⟨Rn, Sl.app Rv⟩)))).mono (m := m) hm)
        rw [setO_tl (by omega)] at F4
        have b4 : getO (setO (H2' (n + 7696581394458)) (n + 2) (Ob.row 2 [.agg [.int .i64 (Rn), slD 2 encV (Sl.app Rv)]])) (n + 2) = (Ob.row 2 [.agg [.int .i64 (Rn), slD 2 encV (Sl.app Rv)]]) := getO_set1 w3
        rw [f44_eq]; unfold c44; rw [callFn_eq (by rfl)]
        simp (disch := first | assumption | omega | (simp (disch := first | assumption | omega) only [sB, Nat.reduceAdd, Nat.reduceLT, Nat.reduceLeDiff, Nat.reduceEqDiff, Nat.reduceMul, ↓reduceIte]; done) | fail) only [sA, ↓reduceIte, Nat.reduceLT, Nat.reduceEqDiff, Nat.reduceAdd, Nat.reduceLeDiff, c0, c1, s3, s3', E1, hm1, o1, o2, x2, w1, w2, w3, E2, dj, c3, b4, F4]
      · rw [show max (Lev.mk Mn Mv).n (Lev.mk Mn' Mv').n = Mn from Int.max_eq_left (Int.not_lt.1 hc)]
        show _ = Rd.ok (D.tup [.agg [.int .i64 (Lev.told ⟨Mn, Mv ++ Mv'⟩).1.n, slD 2 encV (Sl.app (Lev.told ⟨Mn, Mv ++ Mv'⟩).1.v)], .int .i64 (Lev.told ⟨Mn, Mv ++ Mv'⟩).2]) n h
        have c3 := fun m hm => c3 Mn m hMn.1 hMn.2 hm
        generalize hR : Lev.told ⟨Mn, Mv ++ Mv'⟩ = R at c3 ⊢
        obtain ⟨⟨Rn, Rv⟩, Re⟩ := R
        have F4 := fun m hm => finish_flat (flatR (⟨Rn, Rv⟩, Re)) (((HX Mn).set (r := n + 2) (x := (Ob.row 2 [.agg [.int .i64 (Rn), slD 2 encV (Sl.app Rv)]])) (by omega) (fun q _ => lowO_one (low_flat (flatL ⟨Rn, Sl.app Rv⟩)))).mono (m := m) hm)
        rw [setO_tl (by omega)] at F4
        have b4 : getO (setO (H2' (n + 7696581394458)) (n + 2) (Ob.row 2 [.agg [.int .i64 (Rn), slD 2 encV (Sl.app Rv)]])) (n + 2) = (Ob.row 2 [.agg [.int .i64 (Rn), slD 2 encV (Sl.app Rv)]]) := getO_set1 w3
        rw [f44_eq]; unfold c44; rw [callFn_eq (by rfl)]
        simp (disch := first | assumption | omega | (simp (disch := first | assumption | omega) only [sB, Nat.reduceAdd, Nat.reduceLT, Nat.reduceLeDiff, Nat.reduceEqDiff, Nat.reduceMul, ↓reduceIte]; done) | fail) only [sA, ↓reduceIte, Nat.reduceLT, Nat.reduceEqDiff, Nat.reduceAdd, Nat.reduceLeDiff, c0, c1, s3, s3', E1, hm1, o1, o2, x2, w1, w2, w3, E2, dj, c3, b4, F4]
    · rw [if_neg hb']
      rw [nrm_wrong hb'] at c1
      rw [f44_eq]; unfold c44; rw [callFn_eq (by rfl)]
      simp (disch := first | assumption | omega | (simp (disch := first | assumption | omega) only [sB, Nat.reduceAdd, Nat.reduceLT, Nat.reduceLeDiff, Nat.reduceEqDiff, Nat.reduceMul, ↓reduceIte]; done) | fail) only [sA, ↓reduceIte, Nat.reduceLT, Nat.reduceEqDiff, Nat.reduceAdd, Nat.reduceLeDiff, c0, c1, s3, s3', slD_nil]
  · rw [if_neg hb]
    rw [nrm_wrong hb] at c0
    have c2 := c1 0 []
    generalize hR : Lev.nrm ⟨N', l'⟩ = R' at c2
    obtain ⟨⟨Rn, Rv⟩, Re⟩ := R'
    simp only [slD_nil] at c0 c2
    rw [f44_eq]; unfold c44; rw [callFn_eq (by rfl)]
    simp (disch := first | assumption | omega | (simp (disch := first | assumption | omega) only [sB, Nat.reduceAdd, Nat.reduceLT, Nat.reduceLeDiff, Nat.reduceEqDiff, Nat.reduceMul, ↓reduceIte]; done) | fail) only [sA, ↓reduceIte, Nat.reduceLT, Nat.reduceEqDiff, Nat.reduceAdd, Nat.reduceLeDiff, c0, c2, s3, s3', slD_nil]
end Go.Proofs.Ytjagmfgjlfkmgaa
