/- LsolveRow: a row of limits, each one more than the next, rises by one each, and a ring has no numbers. No condition. -/
import Derived.Test.YtjagmfgjlfkmgaaS3
import Derived.Test.YtjagmfgjlfkmgaaTS
set_option linter.unusedSimpArgs false
set_option linter.unusedVariables false
namespace Go.Proofs.Ytjagmfgjlfkmgaa
open Go Go.ChangeShapes Go.WideShapes Go.ChangeAt Go.RowKit

/-- a variable with so much added, as the statements write it -/
abbrev oneV (p : LV) : Sl LV := ⟨false, true, [p], []⟩
/-- the limits: the first is at least a number; each next one is at least one more -/
def lim0 (first : Int) : SLim := ⟨⟨first, Sl.app []⟩, ⟨0, oneV (0, 0)⟩⟩
def limI (i j : Nat) : SLim := ⟨⟨0, oneV ((i : Int), 1)⟩, ⟨0, oneV ((j : Int), 0)⟩⟩
def rowL (first : Int) (m : Nat) : List SLim := lim0 first :: (List.range m).map fun i => limI i (i + 1)
theorem lm0 (first : Int) : lm (lim0 first) = ⟨⟨first, []⟩, some 0, 0⟩ := rfl
theorem lmI (i j : Nat) : lm (limI i j) = ⟨⟨0, [((i : Int), 1)]⟩, some j, 0⟩ := by
  show Lm.mk _ (some ((j : Int)).toNat) 0 = _
  rw [Int.toNat_natCast]
  rfl
theorem rowL_snoc (first : Int) (m : Nat) : rowL first (m + 1) = rowL first m ++ [limI m (m + 1)] := by
  unfold rowL
  rw [List.range_succ, List.map_append, List.cons_append]
  rfl
theorem lval0 {v : List Int} (hv : ∀ i, 0 ≤ gv v i) {first x : Int} : lval ⟨first, []⟩ v ≤ x ↔ first ≤ x := by
  rw [lval_le hv]
  simp
theorem lvalI {v : List Int} (hv : ∀ i, 0 ≤ gv v i) {i : Nat} {x : Int} : lval ⟨0, [((i : Int), 1)]⟩ v ≤ x ↔ gv v i + 1 ≤ x := by
  have := hv i
  rw [lval_le hv]
  constructor
  · rintro ⟨_, h⟩
    have := h ((i : Int), 1) (by simp)
    rw [Int.toNat_natCast] at this
    exact this
  · intro h
    refine ⟨by show (0 : Int) ≤ x; omega, fun q hq => ?_⟩
    rw [List.mem_singleton.1 hq]
    show gv v ((i : Int)).toNat + 1 ≤ x
    rw [Int.toNat_natCast]
    exact h
/-- what holds of a row -/
theorem row_feas {first : Int} {n m : Nat} {v : List Int} {t : List SLim} (hv : Feas n ((rowL first m ++ t).map lm) v) : first ≤ gv v 0 ∧ ∀ i, i < m → gv v i + 1 ≤ gv v (i + 1) := by
  constructor
  · have := hv.2.2 (lm (lim0 first)) (List.mem_map.2 ⟨lim0 first, by simp [rowL], rfl⟩) 0 (by rw [lm0])
    rw [lm0] at this
    have := (lval0 hv.2.1).1 this
    replace this : first ≤ gv v 0 + 0 := this
    omega
  · intro i hi
    have := hv.2.2 (lm (limI i (i + 1))) (List.mem_map.2 ⟨limI i (i + 1), List.mem_append_left _ (List.mem_cons_of_mem _ (List.mem_map.2 ⟨i, List.mem_range.2 hi, rfl⟩)), rfl⟩) (i + 1) (by rw [lmI])
    rw [lmI] at this
    have := (lvalI hv.2.1).1 this
    replace this : gv v i + 1 ≤ gv v (i + 1) + 0 := this
    omega
theorem row_up {v : List Int} {m : Nat} (h : ∀ i, i < m → gv v i + 1 ≤ gv v (i + 1)) : ∀ i, i ≤ m → gv v 0 + i ≤ gv v i
  | 0, _ => by simp
  | i + 1, hi => by
    have h1 := row_up h i (by omega)
    have h2 := h i (by omega)
    omega
theorem ring_none {first : Int} {n m : Nat} {v : List Int} (hv : Feas n ((rowL first m ++ [limI m 0]).map lm) v) : False := by
  obtain ⟨_, h2⟩ := row_feas hv
  have h3 := row_up h2 m (Nat.le_refl _)
  have := hv.2.2 (lm (limI m 0)) (List.mem_map.2 ⟨limI m 0, by simp, rfl⟩) 0 (by rw [lmI])
  rw [lmI] at this
  have := (lvalI hv.2.1).1 this
  replace this : gv v m + 1 ≤ gv v 0 + 0 := this
  omega
def rowV (first : Int) (n : Nat) : List Int := (List.range n).map fun (i : Nat) => first + (i : Int)
theorem rowV_len (first : Int) (n : Nat) : (rowV first n).length = n := by unfold rowV; rw [List.length_map, List.length_range]
theorem gv_row {first : Int} {n i : Nat} (hi : i < n) : gv (rowV first n) i = first + i := by
  unfold gv rowV
  rw [List.getD_eq_getElem?_getD, List.getElem?_map, List.getElem?_range hi]
  rfl
theorem row_least {first : Int} {m : Nat} (h0 : 0 ≤ first) (hm : first + m ≤ 1000) : Least (m + 1) ((rowL first m).map lm) (rowV first (m + 1)) := by
  have hpos : ∀ i, 0 ≤ gv (rowV first (m + 1)) i ∧ gv (rowV first (m + 1)) i ≤ 1000 := fun i => by
    by_cases hi : i < m + 1
    · rw [gv_row hi]; omega
    · rw [gv_out (by rw [rowV_len]; exact hi)]; omega
  refine ⟨⟨rowV_len _ _, fun i => (hpos i).1, ?_⟩, ⟨rowV_len _ _, hpos⟩, fun v hv i => ?_⟩
  · intro x hx y hy
    obtain ⟨s, hs, rfl⟩ := List.mem_map.1 hx
    unfold rowL at hs
    rcases List.mem_cons.1 hs with rfl | hs
    · rw [lm0] at hy ⊢
      cases hy
      refine (lval0 (fun i => (hpos i).1)).2 ?_
      show first ≤ gv (rowV first (m + 1)) 0 + 0
      rw [gv_row (by omega)]
      omega
    · obtain ⟨i, hi, rfl⟩ := List.mem_map.1 hs
      rw [List.mem_range] at hi
      rw [lmI] at hy ⊢
      cases hy
      refine (lvalI (fun i => (hpos i).1)).2 ?_
      show gv (rowV first (m + 1)) i + 1 ≤ gv (rowV first (m + 1)) (i + 1) + 0
      rw [gv_row (by omega), gv_row (by omega)]
      omega
  · have hv' : Feas (m + 1) ((rowL first m ++ []).map lm) v := by rw [List.append_nil]; exact hv
    obtain ⟨h1, h2⟩ := row_feas hv'
    by_cases hi : i < m + 1
    · have := row_up h2 i (by omega)
      rw [gv_row hi]; omega
    · rw [gv_out (by rw [rowV_len]; exact hi)]; exact hv.2.1 i
theorem rowOk {first : Int} {m : Nat} {t : List SLim} (ht : ∀ x, x ∈ t → x = limI m 0) : LimOk (m + 1) ((rowL first m ++ t).map lm) := by
  intro z hz y hy
  obtain ⟨x, hx, rfl⟩ := List.mem_map.1 hz
  rcases List.mem_append.1 hx with hx | hx
  · unfold rowL at hx
    rcases List.mem_cons.1 hx with rfl | hx
    · rw [lm0] at hy; cases hy; omega
    · obtain ⟨i, hi, rfl⟩ := List.mem_map.1 hx
      rw [List.mem_range] at hi
      rw [lmI] at hy; cases hy; omega
  · rw [ht x hx, lmI] at hy; cases hy; omega
theorem row_nums {first : Int} {m : Nat} {t : List SLim} {v : List Int} (ht : ∀ x, x ∈ t → x = limI m 0) : NumsOk ((rowL first m ++ t).map lm) v := by
  intro z hz hno
  obtain ⟨x, hx, rfl⟩ := List.mem_map.1 hz
  rcases List.mem_append.1 hx with hx | hx
  · unfold rowL at hx
    rcases List.mem_cons.1 hx with rfl | hx
    · rw [lm0] at hno; cases hno
    · obtain ⟨i, hi, rfl⟩ := List.mem_map.1 hx
      rw [lmI] at hno; cases hno
  · rw [ht x hx, lmI] at hno; cases hno
theorem limI_chk {n i j : Nat} (hi : i < n) (hj : j < n) (hn : n ≤ 500) : chk1 (n : Int) (limI i j) = true ∧ chk2 (limI i j) = true := by
  refine ⟨?_, by rfl⟩
  have r1 : (limI i j).a.lev.right = true := right_iff.2 ⟨by show (0 : Int) ≤ 0 ∧ (0 : Int) ≤ 1000; omega, by show 1 ≤ 64; omega, fun p hp => by
    rw [List.mem_singleton.1 hp]; show ((0 : Int) ≤ (i : Int) ∧ (i : Int) ≤ 1000) ∧ (0 : Int) ≤ 1 ∧ (1 : Int) ≤ 1000; omega⟩
  have r2 : (limI i j).b.lev.right = true := right_iff.2 ⟨by show (0 : Int) ≤ 0 ∧ (0 : Int) ≤ 1000; omega, by show 1 ≤ 64; omega, fun p hp => by
    rw [List.mem_singleton.1 hp]; show ((0 : Int) ≤ (j : Int) ∧ (j : Int) ≤ 1000) ∧ (0 : Int) ≤ 0 ∧ (0 : Int) ≤ 1000; omega⟩
  have b1 : (limI i j).a.lev.bnd ≤ n := bnd_le.2 ⟨by omega, fun p hp => by rw [List.mem_singleton.1 hp]; show (i : Int) + 1 ≤ n; omega⟩
  have b2 : (limI i j).b.lev.bnd ≤ n := bnd_le.2 ⟨by omega, fun p hp => by rw [List.mem_singleton.1 hp]; show (j : Int) + 1 ≤ n; omega⟩
  unfold chk1
  rw [r1, r2, decide_eq_true b1, decide_eq_true b2]; rfl
theorem lim0_chk {n : Nat} {first : Int} (hn : 1 ≤ n) (h0 : 0 ≤ first ∧ first ≤ 500) : chk1 (n : Int) (lim0 first) = true ∧ chk2 (lim0 first) = true := by
  refine ⟨?_, by rfl⟩
  have r1 : (lim0 first).a.lev.right = true := right_iff.2 ⟨by show (0 : Int) ≤ first ∧ first ≤ 1000; omega, by show 0 ≤ 64; omega, fun p hp => by cases hp⟩
  have r2 : (lim0 first).b.lev.right = true := rfl
  have b1 : (lim0 first).a.lev.bnd ≤ n := bnd_le.2 ⟨by omega, fun p hp => by cases hp⟩
  have b2 : (lim0 first).b.lev.bnd ≤ n := bnd_le.2 ⟨by omega, fun p hp => by rw [List.mem_singleton.1 hp]; show (0 : Int) + 1 ≤ n; omega⟩
  unfold chk1
  rw [r1, r2, decide_eq_true b1, decide_eq_true b2]; rfl
theorem row_bad {first : Int} {m : Nat} {t : List SLim} (h0 : 0 ≤ first ∧ first ≤ 500) (hm : m < 100) (ht : ∀ x, x ∈ t → x = limI m 0) (htl : t.length ≤ 1) : limBad ((m + 1 : Nat) : Int) (rowL first m ++ t) = none := by
  have hall : ∀ x, x ∈ rowL first m ++ t → chk1 ((m + 1 : Nat) : Int) x = true ∧ chk2 x = true := fun x hx => by
    rcases List.mem_append.1 hx with hx | hx
    · unfold rowL at hx
      rcases List.mem_cons.1 hx with rfl | hx
      · exact lim0_chk (by omega) h0
      · obtain ⟨i, hi, rfl⟩ := List.mem_map.1 hx
        rw [List.mem_range] at hi
        exact limI_chk (by omega) (by omega) (by omega)
    · rw [ht x hx]; exact limI_chk (by omega) (by omega) (by omega)
  have e1 : (rowL first m ++ t).all (chk1 ((m + 1 : Nat) : Int)) = true := List.all_eq_true.2 fun x hx => (hall x hx).1
  have e2 : (rowL first m ++ t).all chk2 = true := List.all_eq_true.2 fun x hx => (hall x hx).2
  have e3 : (rowL first m ++ t).length ≤ 102 := by
    unfold rowL
    rw [List.length_append, List.length_cons, List.length_map, List.length_range]
    omega
  unfold limBad
  rw [if_neg (by omega), if_neg (by rw [e1]; decide), if_neg (by rw [e2]; decide)]

theorem leak_any (h : Hps) : Go.Proofs.Ytjagmfgjlfkmgaa.leak 0 h = false := by
  induction h with
  | nil => rfl
  | cons p t ih => rw [show p = (p.1, p.2) from rfl, leak_new (Nat.zero_le _)]; exact ih
theorem wAlive : callFn (LX (cF Go.Proofs.Try.prog)) 2 [] [] ((cF Go.Proofs.Try.prog) 27) = .ok (.bool true) 2 [] := by
  have h : callFn (exec (tS.look (cF Go.Proofs.Try.prog)) 1000) 2 [] [] (tS.look (cF Go.Proofs.Try.prog) 27) = .ok (.bool true) 2 [] := by kernel_rfl
  rw [Tb.look_eq tS_ok] at h
  exact callFn_LX _ h
theorem wNum {m : Nat} {h : Hps} (hg : ∀ k, m ≤ k → GoodAt k h) (a : Int) : callFn (LX (cF Go.Proofs.Try.prog)) m h [.int .i64 a] (cF Go.Proofs.Try.prog 30) = .ok (.int .i64 a) m h := by
  have hgn := hg m (Nat.le_refl _)
  rw [f30_eq]; unfold c30; rw [callFn_eq (by rfl)]
  simp (disch := first | assumption | omega | (simp (disch := first | assumption | omega) only [sB, Nat.reduceAdd, Nat.reduceLT, Nat.reduceLeDiff, Nat.reduceEqDiff, Nat.reduceMul, ↓reduceIte]; done) | fail) only [sA, ↓reduceIte, Nat.reduceLT, Nat.reduceEqDiff, Nat.reduceAdd, Nat.reduceLeDiff]
/-- the row of limits, as the statement puts it together -/
def Rw (n : Nat) (l : List SLim) (h : Hps) (d : D) : Prop := (∃ e, l = [e] ∧ d = .sl 4 [encM e] [] true ∧ h = []) ∨ ∃ r, r < n ∧ l ≠ [] ∧ d = .ms 4 r 0 l.length false ∧ h = [(r, .row 4 (l.map encM))]
theorem Rw.mono {n m : Nat} {l : List SLim} {h : Hps} {d : D} (R : Rw n l h d) (hm : n ≤ m) : Rw m l h d := by
  rcases R with R | ⟨r, h1, h2⟩
  · exact .inl R
  · exact .inr ⟨r, by omega, h2⟩
theorem Rw.low {n : Nat} {l : List SLim} {h : Hps} {d : D} (R : Rw n l h d) : ∀ p, p ∈ h → p.1 < n ∧ ∀ k, lowO k p.2 := by
  rcases R with ⟨e, rfl, rfl, rfl⟩ | ⟨r, h1, _, rfl, rfl⟩
  · intro p hp; cases hp
  · intro p hp
    rw [List.mem_singleton.1 hp]
    exact ⟨h1, fun k => lowO_map (fun x => low_flat (flatM x))⟩
theorem Rw.good {n : Nat} {l : List SLim} {h : Hps} {d : D} (R : Rw n l h d) : ∀ k, n ≤ k → GoodAt k h := fun k hk p hp => ⟨by have := (R.low p hp).1; omega, (R.low p hp).2 k⟩
theorem Rw.okD {n : Nat} {l : List SLim} {h : Hps} {d : D} (R : Rw n l h d) (m : Nat) (h' : Hps) : Go.Proofs.Ytjagmfgjlfkmgaa.okD m h' d = .ok d m h' := by
  rcases R with ⟨e, rfl, rfl, rfl⟩ | ⟨r, h1, _, rfl, rfl⟩ <;> rfl
theorem Rw.sv {n : Nat} {l : List SLim} {h : Hps} {d : D} (R : Rw n l h d) : ∃ ad, Sv 4 encM n h d l ad := by
  rcases R with ⟨e, rfl, rfl, rfl⟩ | ⟨r, h1, h2, rfl, rfl⟩
  · exact ⟨_, Sv.slD (s := ⟨false, true, [e], []⟩) aggM⟩
  · exact Bld.sv (n1 := 0) (.inr ⟨r, h2, Nat.zero_le _, rfl, getO_hd⟩) (fun p hp => by
      rw [List.mem_singleton.1 hp]
      exact ⟨h1, lowO_map (fun x => low_flat (flatM x))⟩) aggM
theorem Rw.app {n m : Nat} {l : List SLim} {h : Hps} {d : D} (R : Rw n l h d) (hl : l.length ≤ 1000) (x : SLim) : appD m h 4 64 d (.ok 4 [encM x]) = .ok (.ms 4 m 0 (l.length + 1) false) m [(m, .row 4 ((l ++ [x]).map encM))] ∧ Rw (m + 1) (l ++ [x]) [(m, .row 4 ((l ++ [x]).map encM))] (.ms 4 m 0 (l.length + 1) false) := by
  refine ⟨?_, .inr ⟨m, by omega, by simp, by rw [List.length_append, List.length_singleton], rfl⟩⟩
  rcases R with ⟨e, rfl, rfl, rfl⟩ | ⟨r, h1, h2, rfl, rfl⟩
  · rfl
  · have := appD_ms (n := m) (h := [(r, .row 4 (l.map encM))]) (b := 64) (q := 4) (r := r) (m := l.length) (es := l.map encM) (xs := [encM x]) (x := encM x) (xt := []) rfl getO_hd (by rw [List.length_map]) (by rw [List.length_map]; simp; omega)
    rw [List.length_map, List.length_singleton, delO_hd] at this
    rw [this, List.map_append]
    rfl

set_option maxHeartbeats 8000000 in
set_option maxRecDepth 8000 in
theorem sw_run (a first : Int) (ring : Bool) : ∃ n' h', callFn (LX (cF Go.Proofs.Try.prog)) 0 [] [.int .i64 a, .int .i64 first, .bool ring] ((cF Go.Proofs.Try.prog) 8) = .ok (.bool true) n' h' := by
  rw [f8_eq]; unfold c8; rw [callFn_eq (by rfl)]
  by_cases y1 : a < 1
  · simp (disch := first | assumption | omega | (simp (disch := first | assumption | omega) only [sB, Nat.reduceAdd, Nat.reduceLT, Nat.reduceLeDiff, Nat.reduceEqDiff, Nat.reduceMul, ↓reduceIte]; done) | fail) only [sA, ↓reduceIte, Nat.reduceLT, Nat.reduceEqDiff, Nat.reduceAdd, Nat.reduceLeDiff, wAlive, y1]
    exact ⟨_, _, rfl⟩
  by_cases y2 : a > 100
  · simp (disch := first | assumption | omega | (simp (disch := first | assumption | omega) only [sB, Nat.reduceAdd, Nat.reduceLT, Nat.reduceLeDiff, Nat.reduceEqDiff, Nat.reduceMul, ↓reduceIte]; done) | fail) only [sA, ↓reduceIte, Nat.reduceLT, Nat.reduceEqDiff, Nat.reduceAdd, Nat.reduceLeDiff, wAlive, y1, y2]
    exact ⟨_, _, rfl⟩
  by_cases y3 : first < 0
  · simp (disch := first | assumption | omega | (simp (disch := first | assumption | omega) only [sB, Nat.reduceAdd, Nat.reduceLT, Nat.reduceLeDiff, Nat.reduceEqDiff, Nat.reduceMul, ↓reduceIte]; done) | fail) only [sA, ↓reduceIte, Nat.reduceLT, Nat.reduceEqDiff, Nat.reduceAdd, Nat.reduceLeDiff, wAlive, y1, y2, y3]
    exact ⟨_, _, rfl⟩
  by_cases y4 : first > 500
  · simp (disch := first | assumption | omega | (simp (disch := first | assumption | omega) only [sB, Nat.reduceAdd, Nat.reduceLT, Nat.reduceLeDiff, Nat.reduceEqDiff, Nat.reduceMul, ↓reduceIte]; done) | fail) only [sA, ↓reduceIte, Nat.reduceLT, Nat.reduceEqDiff, Nat.reduceAdd, Nat.reduceLeDiff, wAlive, y1, y2, y3, y4]
    exact ⟨_, _, rfl⟩
  obtain ⟨m, rfl⟩ : ∃ m : Nat, a = ((m + 1 : Nat) : Int) := ⟨(a - 1).toNat, by omega⟩
  have cV : ∀ n h (hg : ∀ k, n ≤ k → GoodAt k h) x y, callFn (LX (cF Go.Proofs.Try.prog)) n h [.int .i64 x, .int .i64 y] (cF Go.Proofs.Try.prog 32) = .ok (.agg [.int .i64 0, .sl 2 [.agg [.int .i64 x, .int .i64 y]] [] true]) n h := fun n h hg x y => lawV n h hg x y
  have cV0 : ∀ n x y, callFn (LX (cF Go.Proofs.Try.prog)) n [] [.int .i64 x, .int .i64 y] (cF Go.Proofs.Try.prog 32) = .ok (.agg [.int .i64 0, .sl 2 [.agg [.int .i64 x, .int .i64 y]] [] true]) n [] := fun n x y => cV n [] (fun _ _ => good_nil) x y
  have ev : ∀ i j : Int, (D.agg [.int .i64 0, .sl 2 [.agg [.int .i64 i, .int .i64 1]] [] true, .int .i64 0, .sl 2 [.agg [.int .i64 j, .int .i64 0]] [] true]) = encM ⟨⟨0, oneV (i, 1)⟩, ⟨0, oneV (j, 0)⟩⟩ := fun _ _ => rfl
  simp (disch := first | assumption | omega | (simp (disch := first | assumption | omega) only [sB, Nat.reduceAdd, Nat.reduceLT, Nat.reduceLeDiff, Nat.reduceEqDiff, Nat.reduceMul, ↓reduceIte]; done) | fail) only [sA, ↓reduceIte, Nat.reduceLT, Nat.reduceEqDiff, Nat.reduceAdd, Nat.reduceLeDiff, wAlive, y1, y2, y3, y4, cV0]
  generalize hr : LX (cF Go.Proofs.Try.prog) (.loop l8_0) _ _ _ = r
  obtain ⟨x, e2, n2, h2, rfl, rfl, ⟨d, R, g8⟩, g0, g1, g2⟩ := loop_up hr m
    (fun i e n' h' => (∃ d, Rw n' (rowL first i) h' d ∧ get (po 8) e = d) ∧ get (po 0) e = .int .i64 ((m + 1 : Nat) : Int) ∧ get (po 1) e = .int .i64 first ∧ get (po 2) e = .bool ring ∧ get (po 9) e = .int .i64 (i : Nat))
    (fun x e n' h' => x = .exit 0 ∧ (∃ d, Rw n' (rowL first m) h' d ∧ get (po 8) e = d) ∧ get (po 0) e = .int .i64 ((m + 1 : Nat) : Int) ∧ get (po 1) e = .int .i64 first ∧ get (po 2) e = .bool ring)
    (by
      rintro e n' h' ⟨⟨d, R, g8⟩, g0, g1, g2, g9⟩
      unfold l8_0
      simp (disch := first | assumption | omega | (simp (disch := first | assumption | omega) only [sB, Nat.reduceAdd, Nat.reduceLT, Nat.reduceLeDiff, Nat.reduceEqDiff, Nat.reduceMul, ↓reduceIte]; done) | fail) only [sA, ↓reduceIte, Nat.reduceLT, Nat.reduceEqDiff, Nat.reduceAdd, Nat.reduceLeDiff, g0, g8, g9]
      exact ⟨_, _, _, _, rfl, by simp, rfl, ⟨d, R.mono (by omega), by simp (disch := first | assumption | omega | (simp (disch := first | assumption | omega) only [sB, Nat.reduceAdd, Nat.reduceLT, Nat.reduceLeDiff, Nat.reduceEqDiff, Nat.reduceMul, ↓reduceIte]; done) | fail) only [sA, ↓reduceIte, Nat.reduceLT, Nat.reduceEqDiff, Nat.reduceAdd, Nat.reduceLeDiff, g8]⟩, by simp (disch := first | assumption | omega | (simp (disch := first | assumption | omega) only [sB, Nat.reduceAdd, Nat.reduceLT, Nat.reduceLeDiff, Nat.reduceEqDiff, Nat.reduceMul, ↓reduceIte]; done) | fail) only [sA, ↓reduceIte, Nat.reduceLT, Nat.reduceEqDiff, Nat.reduceAdd, Nat.reduceLeDiff, g0], by simp (disch := first | assumption | omega | (simp (disch := first | assumption | omega) only [sB, Nat.reduceAdd, Nat.reduceLT, Nat.reduceLeDiff, Nat.reduceEqDiff, Nat.reduceMul, ↓reduceIte]; done) | fail) only [sA, ↓reduceIte, Nat.reduceLT, Nat.reduceEqDiff, Nat.reduceAdd, Nat.reduceLeDiff, g1], by simp (disch := first | assumption | omega | (simp (disch := first | assumption | omega) only [sB, Nat.reduceAdd, Nat.reduceLT, Nat.reduceLeDiff, Nat.reduceEqDiff, Nat.reduceMul, ↓reduceIte]; done) | fail) only [sA, ↓reduceIte, Nat.reduceLT, Nat.reduceEqDiff, Nat.reduceAdd, Nat.reduceLeDiff, g2]⟩)
    (by
      rintro i e n' h' hi ⟨⟨d, R, g8⟩, g0, g1, g2, g9⟩
      unfold l8_0
      have cV1 : ∀ k, n' ≤ k → ∀ x y, callFn (LX (cF Go.Proofs.Try.prog)) k h' [.int .i64 x, .int .i64 y] (cF Go.Proofs.Try.prog 32) = _ := fun k hk x y => cV k h' (fun j hj => R.good j (by omega)) x y
      have hl : (rowL first i).length ≤ 1000 := by unfold rowL; rw [List.length_cons, List.length_map, List.length_range]; omega
      have A1 := fun k => (R.app (m := k) hl (limI i (i + 1))).1
      have A2 := fun k => (R.app (m := k) hl (limI i (i + 1))).2
      unfold limI at A1
      simp only [← ev] at A1
      simp (disch := first | assumption | omega | (simp (disch := first | assumption | omega) only [sB, Nat.reduceAdd, Nat.reduceLT, Nat.reduceLeDiff, Nat.reduceEqDiff, Nat.reduceMul, ↓reduceIte]; done) | fail) only [sA, ↓reduceIte, Nat.reduceLT, Nat.reduceEqDiff, Nat.reduceAdd, Nat.reduceLeDiff, g0, g8, g9, cV1, A1]
      exact ⟨_, _, _, _, rfl, .inl ⟨rfl, ⟨_, by rw [rowL_snoc]; exact (A2 (n' + 14)).mono (by omega), by simp (disch := first | assumption | omega | (simp (disch := first | assumption | omega) only [sB, Nat.reduceAdd, Nat.reduceLT, Nat.reduceLeDiff, Nat.reduceEqDiff, Nat.reduceMul, ↓reduceIte]; done) | fail) only [sA, ↓reduceIte, Nat.reduceLT, Nat.reduceEqDiff, Nat.reduceAdd, Nat.reduceLeDiff]⟩, by simp (disch := first | assumption | omega | (simp (disch := first | assumption | omega) only [sB, Nat.reduceAdd, Nat.reduceLT, Nat.reduceLeDiff, Nat.reduceEqDiff, Nat.reduceMul, ↓reduceIte]; done) | fail) only [sA, ↓reduceIte, Nat.reduceLT, Nat.reduceEqDiff, Nat.reduceAdd, Nat.reduceLeDiff, g0], by simp (disch := first | assumption | omega | (simp (disch := first | assumption | omega) only [sB, Nat.reduceAdd, Nat.reduceLT, Nat.reduceLeDiff, Nat.reduceEqDiff, Nat.reduceMul, ↓reduceIte]; done) | fail) only [sA, ↓reduceIte, Nat.reduceLT, Nat.reduceEqDiff, Nat.reduceAdd, Nat.reduceLeDiff, g1], by simp (disch := first | assumption | omega | (simp (disch := first | assumption | omega) only [sB, Nat.reduceAdd, Nat.reduceLT, Nat.reduceLeDiff, Nat.reduceEqDiff, Nat.reduceMul, ↓reduceIte]; done) | fail) only [sA, ↓reduceIte, Nat.reduceLT, Nat.reduceEqDiff, Nat.reduceAdd, Nat.reduceLeDiff, g2], by simp (disch := first | assumption | omega | (simp (disch := first | assumption | omega) only [sB, Nat.reduceAdd, Nat.reduceLT, Nat.reduceLeDiff, Nat.reduceEqDiff, Nat.reduceMul, ↓reduceIte]; done) | fail) only [sA, ↓reduceIte, Nat.reduceLT, Nat.reduceEqDiff, Nat.reduceAdd, Nat.reduceLeDiff]⟩⟩)
    ⟨⟨_, .inl ⟨lim0 first, rfl, rfl, rfl⟩, by simp (disch := first | assumption | omega | (simp (disch := first | assumption | omega) only [sB, Nat.reduceAdd, Nat.reduceLT, Nat.reduceLeDiff, Nat.reduceEqDiff, Nat.reduceMul, ↓reduceIte]; done) | fail) only [sA, ↓reduceIte, Nat.reduceLT, Nat.reduceEqDiff, Nat.reduceAdd, Nat.reduceLeDiff]; rfl⟩, by simp (disch := first | assumption | omega | (simp (disch := first | assumption | omega) only [sB, Nat.reduceAdd, Nat.reduceLT, Nat.reduceLeDiff, Nat.reduceEqDiff, Nat.reduceMul, ↓reduceIte]; done) | fail) only [sA, ↓reduceIte, Nat.reduceLT, Nat.reduceEqDiff, Nat.reduceAdd, Nat.reduceLeDiff], by simp (disch := first | assumption | omega | (simp (disch := first | assumption | omega) only [sB, Nat.reduceAdd, Nat.reduceLT, Nat.reduceLeDiff, Nat.reduceEqDiff, Nat.reduceMul, ↓reduceIte]; done) | fail) only [sA, ↓reduceIte, Nat.reduceLT, Nat.reduceEqDiff, Nat.reduceAdd, Nat.reduceLeDiff], by simp (disch := first | assumption | omega | (simp (disch := first | assumption | omega) only [sB, Nat.reduceAdd, Nat.reduceLT, Nat.reduceLeDiff, Nat.reduceEqDiff, Nat.reduceMul, ↓reduceIte]; done) | fail) only [sA, ↓reduceIte, Nat.reduceLT, Nat.reduceEqDiff, Nat.reduceAdd, Nat.reduceLeDiff], by simp (disch := first | assumption | omega | (simp (disch := first | assumption | omega) only [sB, Nat.reduceAdd, Nat.reduceLT, Nat.reduceLeDiff, Nat.reduceEqDiff, Nat.reduceMul, ↓reduceIte]; done) | fail) only [sA, ↓reduceIte, Nat.reduceLT, Nat.reduceEqDiff, Nat.reduceAdd, Nat.reduceLeDiff]⟩
  have hl : (rowL first m).length ≤ 1000 := by unfold rowL; rw [List.length_cons, List.length_map, List.length_range]; omega
  cases ring with
  | true =>
    have A1 := fun k => (R.app (m := k) hl (limI m 0)).1
    have A2 := fun k => (R.app (m := k) hl (limI m 0)).2
    have cV1 : ∀ k, n2 ≤ k → ∀ x y, callFn (LX (cF Go.Proofs.Try.prog)) k h2 [.int .i64 x, .int .i64 y] (cF Go.Proofs.Try.prog 32) = _ := fun k hk x y => cV k h2 (fun j hj => R.good j (by omega)) x y
    have e1 : (((m + 1 : Nat) : Int) - 1) = (m : Int) := by omega
    have e0 : ((0 : Nat) : Int) = 0 := rfl
    have hmx : (limI m 0) = ⟨⟨0, oneV ((m : Int), 1)⟩, ⟨0, oneV (0, 0)⟩⟩ := rfl
    rw [hmx] at A1
    simp only [← ev] at A1
    have hk : ∀ x, x ∈ [limI m 0] → x = limI m 0 := fun x hx => List.mem_singleton.1 hx
    have hf : 0 ≤ first ∧ first ≤ 500 := by omega
    have hb : limBad ((m + 1 : Nat) : Int) (rowL first m ++ [limI m 0]) = none := row_bad hf (by omega) hk (by simp)
    have hok : LimOk (m + 1) ((rowL first m ++ [limI m 0]).map lm) := rowOk hk
    have R2 := (A2 (n2 + 10)).mono (show n2 + 10 + 1 ≤ n2 + 15 by omega)
    obtain ⟨ad, S⟩ := R2.sv
    obtain ⟨X, h', hsol, hF, hcase⟩ := lvSolve (n2 + 15) _ R2.low ((m + 1 : Nat) : Int) _ _ ad S (by rw [List.length_append, List.length_singleton]; omega)
    have hX : X = limD none := by
      rcases hcase with ⟨c, hc, _⟩ | ⟨_, p, hp, hc⟩
      · rw [hb] at hc; cases hc
      · rw [Int.toNat_natCast] at hp
        rcases hc with ⟨_, rfl⟩ | ⟨w, rfl, ⟨_, rfl⟩ | ⟨_, rfl⟩⟩
        · rfl
        · exact absurd (ring_none (runP_some hok hp (zero_nums _) w rfl).1) id
        · rfl
    subst hX
    have hG : ∀ k, n2 + 15 ≤ k → ∀ j, k ≤ j → GoodAt j h' := fun k hk j hj p hp => ⟨by have := (hF p hp).1; omega, (hF p hp).2 j⟩
    have num : ∀ k c, n2 + 15 ≤ k → callFn (LX (cF Go.Proofs.Try.prog)) k h' [.int .i64 c] (cF Go.Proofs.Try.prog 30) = .ok (.int .i64 c) k h' := fun k c hk => wNum (hG k hk) c
    have F0 := fun m h => finishD_flat (n0 := 0) (n := m) (d := .bool true) rfl (leak_any h)
    rw [hmx] at hsol
    have hlD : limD none = .tup [.nils, .int .i64 52] := rfl
    rw [hlD] at hsol
    simp (disch := first | assumption | omega | (simp (disch := first | assumption | omega) only [sB, Nat.reduceAdd, Nat.reduceLT, Nat.reduceLeDiff, Nat.reduceEqDiff, Nat.reduceMul, ↓reduceIte]; done) | fail) only [sA, ↓reduceIte, Nat.reduceLT, Nat.reduceEqDiff, Nat.reduceAdd, Nat.reduceLeDiff, g0, g1, g2, g8, cV1, e1, A1, hsol, num, F0]
    exact ⟨_, _, rfl⟩
  | false =>
    have hk : ∀ x, x ∈ ([] : List SLim) → x = limI m 0 := fun x hx => by cases hx
    have hf : 0 ≤ first ∧ first ≤ 500 := by omega
    have hb : limBad ((m + 1 : Nat) : Int) (rowL first m) = none := by
      have := row_bad (first := first) (m := m) (t := []) hf (by omega) hk (by simp)
      rwa [List.append_nil] at this
    have hok : LimOk (m + 1) ((rowL first m).map lm) := by
      have := rowOk (first := first) (m := m) (t := []) hk
      rwa [List.append_nil] at this
    obtain ⟨ad, S⟩ := (R.mono (show n2 ≤ n2 + 4 by omega)).sv
    obtain ⟨X, h', hsol, hF, hcase⟩ := lvSolve (n2 + 4) h2 (R.mono (show n2 ≤ n2 + 4 by omega)).low ((m + 1 : Nat) : Int) d (rowL first m) ad S (by omega)
    have hX : X = limD (some (rowV first (m + 1))) := by
      rcases hcase with ⟨c, hc, _⟩ | ⟨_, p, hp, hc⟩
      · rw [hb] at hc; cases hc
      · rw [Int.toNat_natCast] at hp
        have hL := row_least (first := first) (m := m) (by omega) (by omega)
        have h0 : ∀ i, gv (List.replicate (m + 1) (0 : Int)) i = 0 := fun i => by
          unfold gv
          rw [List.getD_eq_getElem?_getD, List.getElem?_replicate]
          split <;> rfl
        have hp2 := runP_least hok hL hp (zero_nums _) (fun i => by rw [h0]; exact hL.1.2.1 i) (.inl (Nat.zero_le _))
        have hno : NumsOk ((rowL first m).map lm) (rowV first (m + 1)) := by
          have := row_nums (first := first) (m := m) (t := []) (v := rowV first (m + 1)) hk
          rwa [List.append_nil] at this
        rw [hp2] at hc
        rcases hc with ⟨hx, _⟩ | ⟨w, hw, ⟨_, rfl⟩ | ⟨hx, _⟩⟩
        · cases hx
        · cases hw; rfl
        · cases hw; exact absurd hno hx
    subst hX
    have hG : ∀ k, n2 + 4 ≤ k → ∀ j, k ≤ j → GoodAt j h' := fun k hk j hj p hp => ⟨by have := (hF p hp).1; omega, (hF p hp).2 j⟩
    have num : ∀ k c, n2 + 4 ≤ k → callFn (LX (cF Go.Proofs.Try.prog)) k h' [.int .i64 c] (cF Go.Proofs.Try.prog 30) = .ok (.int .i64 c) k h' := fun k c hk => wNum (hG k hk) c
    have hlen : (rowV first (m + 1)).length = m + 1 := rowV_len _ _
    have hel : (⟨false, false, rowV first (m + 1), []⟩ : Sl Int).el = rowV first (m + 1) := rfl
    have hlD : limD (some (rowV first (m + 1))) = .tup [slD 1 encN ⟨false, false, rowV first (m + 1), []⟩, .int .i64 0] := rfl
    rw [hlD] at hsol
    generalize hRV : rowV first (m + 1) = RV at *
    have F0 := fun m h => finishD_flat (n0 := 0) (n := m) (d := .bool true) rfl (leak_any h)
    simp (disch := first | assumption | omega | (simp (disch := first | assumption | omega) only [sB, Nat.reduceAdd, Nat.reduceLT, Nat.reduceLeDiff, Nat.reduceEqDiff, Nat.reduceMul, ↓reduceIte]; done) | fail) only [sA, ↓reduceIte, Nat.reduceLT, Nat.reduceEqDiff, Nat.reduceAdd, Nat.reduceLeDiff, g0, g1, g2, g8, hsol, num]
    generalize hr : LX (cF Go.Proofs.Try.prog) (.loop l8_1) _ _ _ = r
    obtain ⟨x, e3, n3, h3, rfl, rfl, rfl, hn, k0, k10, k11⟩ := loop_up hr RV.length
      (fun i e n' h'' => h'' = h' ∧ n2 + 4 ≤ n' ∧ get (po 0) e = .int .i64 ((m + 1 : Nat) : Int) ∧ get (po 1) e = .int .i64 first ∧ get (po 10) e = slD 1 encN ⟨false, false, RV, []⟩ ∧ get (po 11) e = .int .i64 0 ∧ get (po 12) e = .int .i64 (i : Nat))
      (fun x e n' h'' => x = .exit 2 ∧ h'' = h' ∧ n2 + 4 ≤ n' ∧ get (po 0) e = .int .i64 ((m + 1 : Nat) : Int) ∧ get (po 10) e = slD 1 encN ⟨false, false, RV, []⟩ ∧ get (po 11) e = .int .i64 0)
      (by
        rintro e n' h'' ⟨rfl, hn, k0, k1, k10, k11, k12⟩
        unfold l8_1
        simp (disch := first | assumption | omega | (simp (disch := first | assumption | omega) only [sB, Nat.reduceAdd, Nat.reduceLT, Nat.reduceLeDiff, Nat.reduceEqDiff, Nat.reduceMul, ↓reduceIte, hel]; done) | fail) only [sA, ↓reduceIte, Nat.reduceLT, Nat.reduceEqDiff, Nat.reduceAdd, Nat.reduceLeDiff, k10, k12, hel]
        exact ⟨_, _, _, _, rfl, by simp, rfl, rfl, by omega, by simp (disch := first | assumption | omega | (simp (disch := first | assumption | omega) only [sB, Nat.reduceAdd, Nat.reduceLT, Nat.reduceLeDiff, Nat.reduceEqDiff, Nat.reduceMul, ↓reduceIte]; done) | fail) only [sA, ↓reduceIte, Nat.reduceLT, Nat.reduceEqDiff, Nat.reduceAdd, Nat.reduceLeDiff, k0], by simp (disch := first | assumption | omega | (simp (disch := first | assumption | omega) only [sB, Nat.reduceAdd, Nat.reduceLT, Nat.reduceLeDiff, Nat.reduceEqDiff, Nat.reduceMul, ↓reduceIte]; done) | fail) only [sA, ↓reduceIte, Nat.reduceLT, Nat.reduceEqDiff, Nat.reduceAdd, Nat.reduceLeDiff, k10], by simp (disch := first | assumption | omega | (simp (disch := first | assumption | omega) only [sB, Nat.reduceAdd, Nat.reduceLT, Nat.reduceLeDiff, Nat.reduceEqDiff, Nat.reduceMul, ↓reduceIte]; done) | fail) only [sA, ↓reduceIte, Nat.reduceLT, Nat.reduceEqDiff, Nat.reduceAdd, Nat.reduceLeDiff, k11]⟩)
      (by
        rintro i e n' h'' hi ⟨rfl, hn, k0, k1, k10, k11, k12⟩
        have hgi : RV[i] = first + (i : Int) := by
          have hi2 : i < m + 1 := by omega
          have := gv_row (first := first) hi2
          rw [hRV] at this
          unfold gv at this
          rw [List.getD_eq_getElem?_getD, List.getElem?_eq_getElem hi] at this
          exact this
        unfold l8_1
        simp (disch := first | assumption | omega | (simp (disch := first | assumption | omega) only [sB, Nat.reduceAdd, Nat.reduceLT, Nat.reduceLeDiff, Nat.reduceEqDiff, Nat.reduceMul, ↓reduceIte, hel, hi]; done) | fail) only [sA, ↓reduceIte, Nat.reduceLT, Nat.reduceEqDiff, Nat.reduceAdd, Nat.reduceLeDiff, k1, k10, k12, encN, hgi, hel, hi]
        exact ⟨_, _, _, _, rfl, .inl ⟨rfl, rfl, by omega, by simp (disch := first | assumption | omega | (simp (disch := first | assumption | omega) only [sB, Nat.reduceAdd, Nat.reduceLT, Nat.reduceLeDiff, Nat.reduceEqDiff, Nat.reduceMul, ↓reduceIte]; done) | fail) only [sA, ↓reduceIte, Nat.reduceLT, Nat.reduceEqDiff, Nat.reduceAdd, Nat.reduceLeDiff, k0], by simp (disch := first | assumption | omega | (simp (disch := first | assumption | omega) only [sB, Nat.reduceAdd, Nat.reduceLT, Nat.reduceLeDiff, Nat.reduceEqDiff, Nat.reduceMul, ↓reduceIte]; done) | fail) only [sA, ↓reduceIte, Nat.reduceLT, Nat.reduceEqDiff, Nat.reduceAdd, Nat.reduceLeDiff, k1], by simp (disch := first | assumption | omega | (simp (disch := first | assumption | omega) only [sB, Nat.reduceAdd, Nat.reduceLT, Nat.reduceLeDiff, Nat.reduceEqDiff, Nat.reduceMul, ↓reduceIte]; done) | fail) only [sA, ↓reduceIte, Nat.reduceLT, Nat.reduceEqDiff, Nat.reduceAdd, Nat.reduceLeDiff, k10], by simp (disch := first | assumption | omega | (simp (disch := first | assumption | omega) only [sB, Nat.reduceAdd, Nat.reduceLT, Nat.reduceLeDiff, Nat.reduceEqDiff, Nat.reduceMul, ↓reduceIte]; done) | fail) only [sA, ↓reduceIte, Nat.reduceLT, Nat.reduceEqDiff, Nat.reduceAdd, Nat.reduceLeDiff, k11], by simp (disch := first | assumption | omega | (simp (disch := first | assumption | omega) only [sB, Nat.reduceAdd, Nat.reduceLT, Nat.reduceLeDiff, Nat.reduceEqDiff, Nat.reduceMul, ↓reduceIte]; done) | fail) only [sA, ↓reduceIte, Nat.reduceLT, Nat.reduceEqDiff, Nat.reduceAdd, Nat.reduceLeDiff]⟩⟩)
      ⟨rfl, by omega, by simp (disch := first | assumption | omega | (simp (disch := first | assumption | omega) only [sB, Nat.reduceAdd, Nat.reduceLT, Nat.reduceLeDiff, Nat.reduceEqDiff, Nat.reduceMul, ↓reduceIte]; done) | fail) only [sA, ↓reduceIte, Nat.reduceLT, Nat.reduceEqDiff, Nat.reduceAdd, Nat.reduceLeDiff, g0], by simp (disch := first | assumption | omega | (simp (disch := first | assumption | omega) only [sB, Nat.reduceAdd, Nat.reduceLT, Nat.reduceLeDiff, Nat.reduceEqDiff, Nat.reduceMul, ↓reduceIte]; done) | fail) only [sA, ↓reduceIte, Nat.reduceLT, Nat.reduceEqDiff, Nat.reduceAdd, Nat.reduceLeDiff, g1], by simp (disch := first | assumption | omega | (simp (disch := first | assumption | omega) only [sB, Nat.reduceAdd, Nat.reduceLT, Nat.reduceLeDiff, Nat.reduceEqDiff, Nat.reduceMul, ↓reduceIte]; done) | fail) only [sA, ↓reduceIte, Nat.reduceLT, Nat.reduceEqDiff, Nat.reduceAdd, Nat.reduceLeDiff], by simp (disch := first | assumption | omega | (simp (disch := first | assumption | omega) only [sB, Nat.reduceAdd, Nat.reduceLT, Nat.reduceLeDiff, Nat.reduceEqDiff, Nat.reduceMul, ↓reduceIte]; done) | fail) only [sA, ↓reduceIte, Nat.reduceLT, Nat.reduceEqDiff, Nat.reduceAdd, Nat.reduceLeDiff], by simp (disch := first | assumption | omega | (simp (disch := first | assumption | omega) only [sB, Nat.reduceAdd, Nat.reduceLT, Nat.reduceLeDiff, Nat.reduceEqDiff, Nat.reduceMul, ↓reduceIte]; done) | fail) only [sA, ↓reduceIte, Nat.reduceLT, Nat.reduceEqDiff, Nat.reduceAdd, Nat.reduceLeDiff]⟩
    have hlen2 : ((RV.length : Nat) : Int) = ((m + 1 : Nat) : Int) := by rw [hlen]
    simp (disch := first | assumption | omega | (simp (disch := first | assumption | omega) only [sB, Nat.reduceAdd, Nat.reduceLT, Nat.reduceLeDiff, Nat.reduceEqDiff, Nat.reduceMul, ↓reduceIte]; done) | fail) only [sA, ↓reduceIte, Nat.reduceLT, Nat.reduceEqDiff, Nat.reduceAdd, Nat.reduceLeDiff, k0, k10, k11, num, hel, hlen2, F0]
    exact ⟨_, _, rfl⟩

set_option maxRecDepth 100000 in
theorem sw_lifted (os : Os) (started : os.Started) (H : Type) (enc : TypeId × Value → H) :
    ReturnsInHanded {} Go.Proofs.Try.checked os 8 .any (Rows.lsolveRowSpec.pre6 enc Go.Proofs.Try.prog Go.Proofs.Try.f8 Rows.lsolveRowRow.domain false) (Rows.lsolveRowSpec.post enc Go.Proofs.Try.prog Go.Proofs.Try.f8 false true false false) := by
  refine law_lifted (K := noK) (C := Go.Proofs.Try.checked) (tb := 4) own started (by kernel_rfl) Go.Proofs.Try.func8
    (ChangeSpec.witness6 (enc := enc) (C := Go.Proofs.Try.checked) false ⟨#[], #[.int .i64 0, .int .i64 0, .bool false], []⟩ 8 (by kernel_rfl) (by kernel_rfl) (by kernel_rfl) (by kernel_rfl))
    mixed laidOut rowed_maps full_slices (by kernel_rfl) rfl (by kernel_rfl) rfl ?_ ?_
  · intro ds hl
    match ds, hl with
    | [_, _, _], _ => rfl
  · intro ds l hA
    have hA : ArgsAre Go.Proofs.Try.prog [3, 3, 4] ds l := hA
    obtain ⟨x, y, z, f1, f2, f3, rfl, h1, h2, h3⟩ := args_three hA
    obtain ⟨k, e1, _⟩ := int_arg (k := .i64) (by kernel_rfl) h1
    obtain ⟨j, e2, _⟩ := int_arg (k := .i64) (by kernel_rfl) h2
    obtain ⟨b, e3⟩ := bool_arg (by kernel_rfl) h3
    rw [e1, e2, e3]
    exact sw_run k j b

theorem LsolveRow_holds : Rows.LsolveRowSaid :=
  OpenClaim.holds_of_wide 8 Go.Proofs.Try.f8 rfl rfl rfl rfl rfl rfl rfl ⟨rfl, rfl, rfl, rfl, rfl⟩ rfl rfl rfl rfl rfl (by kernel_rfl) Go.Proofs.Try.func8 (by kernel_rfl)
    (of_decide_eq_true (by kernel_rfl)) (by unfold Func.isWrapper; first | (rw [if_pos (by decide +kernel)]; kernel_rfl) | (rw [if_neg (by decide +kernel)]; exact ⟨rfl, rfl⟩))
    (fun os started H enc _ => sw_lifted os started H enc)
end Go.Proofs.Ytjagmfgjlfkmgaa
