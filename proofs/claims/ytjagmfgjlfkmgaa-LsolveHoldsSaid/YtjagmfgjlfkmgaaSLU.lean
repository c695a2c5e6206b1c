/- The numbers that levels have. No condition but that the values are at most a million. -/
import Derived.Test.YtjagmfgjlfkmgaaSLB
set_option linter.unusedSimpArgs false
set_option linter.unusedVariables false
namespace Go.Proofs.Ytjagmfgjlfkmgaa
open Go

def encN (i : Int) : D := .int .i64 i
/-- the value of a variable -/
def rv (v : List Int) (i : Int) : Int := match v[i.toNat]? with
  | some x => max 0 x
  | none => 0
theorem rv_in {v : List Int} {k : Nat} (h : k < v.length) : rv v (k : Int) = max 0 v[k] := by
  unfold rv; rw [Int.toNat_natCast, List.getElem?_eq_getElem h]
theorem rv_out {v : List Int} {k : Nat} (h : ¬ k < v.length) : rv v (k : Int) = 0 := by
  unfold rv; rw [Int.toNat_natCast, List.getElem?_eq_none (by omega)]
theorem rv_pos (v : List Int) (i : Int) : 0 ≤ rv v i := by
  unfold rv; split <;> omega
theorem val_snoc (N : Int) (l : List LV) (p : LV) (r : Int → Int) : Lev.val ⟨N, l ++ [p]⟩ r = max (Lev.val ⟨N, l⟩ r) (r p.1 + p.2) := by
  unfold Lev.val; simp only [List.foldl_append, List.foldl_cons, List.foldl_nil]
def Lev.eval (l : Lev) (v : List Int) : Int := if l.right then l.val (rv v) else 0
def Lev.bnd (l : Lev) : Int := l.v.foldl (fun m p => max m (p.1 + 1)) 0
theorem bnd_snoc (N : Int) (l : List LV) (p : LV) : Lev.bnd ⟨N, l ++ [p]⟩ = max (Lev.bnd ⟨N, l⟩) (p.1 + 1) := by
  unfold Lev.bnd; simp only [List.foldl_append, List.foldl_cons, List.foldl_nil]
def Lev.bound (l : Lev) : Int := if l.right then l.bnd else 0

section
variable (n : Nat) (h : Hps) (hg : ∀ k, n ≤ k → GoodAt k h)
include hg

set_option maxHeartbeats 4000000 in
theorem lvEval (N : Int) (s : Sl LV) (hs : s.el.length < 1000000000000) (v : Sl Int) (hv : ∀ x, x ∈ v.el → x ≤ 1000000) (hl : v.el.length < 1000000000000) :
    callFn (LX (cFk kS Go.Proofs.Try.prog)) n h [(D.agg [.int .i64 (N), slD 2 encV (s)]), slD 1 encN v] (cFk kS Go.Proofs.Try.prog 49) = .ok (.int .i64 (Lev.eval ⟨N, s.el⟩ v.el)) n h := by
  have hgn := hg n (Nat.le_refl _)
  have H0 : Hp n h (n + 1) ((n, (Ob.row 2 [.agg [.int .i64 (N), slD 2 encV (s)]])) :: h) := (Hp.start hg).box (r := n) (m := n + 1) (Nat.le_refl _) (by omega) (flatL ⟨N, s⟩)
  have c0 : ∀ m, n + 1 ≤ m → callFn (LX (cFk kS Go.Proofs.Try.prog)) m ((n, (Ob.row 2 [.agg [.int .i64 (N), slD 2 encV (s)]])) :: h) [(D.agg [.int .i64 (N), slD 2 encV (s)])] (cFk kS Go.Proofs.Try.prog 68) = .ok (.bool (Lev.right ⟨N, s.el⟩)) m ((n, (Ob.row 2 [.agg [.int .i64 (N), slD 2 encV (s)]])) :: h) := fun m hm => lvRight m _ (H0.good' hm) N _ _ _ (svV s) hs
  unfold Lev.eval
  cases hb : Lev.right ⟨N, s.el⟩ with
  | false =>
    rw [hb] at c0
    rw [if_neg (by decide)]
    rw [f49_eq]; unfold c49; rw [callFn_eq (by rfl)]
    simp (disch := first | assumption | omega | (simp (disch := first | assumption | omega) only [sB, Nat.reduceAdd, Nat.reduceLT, Nat.reduceLeDiff, Nat.reduceEqDiff, Nat.reduceMul, ↓reduceIte]; done) | fail) only [sA, ↓reduceIte, Nat.reduceLT, Nat.reduceEqDiff, Nat.reduceAdd, Nat.reduceLeDiff, c0]
  | true =>
    rw [hb] at c0
    rw [if_pos rfl]
    obtain ⟨hN, h64, hV⟩ := right_iff.1 hb
    replace h64 : s.el.length ≤ 64 := h64
    replace hN : 0 ≤ N ∧ N ≤ 1000 := hN
    replace hV : ∀ p, p ∈ s.el → (0 ≤ p.1 ∧ p.1 ≤ 1000) ∧ 0 ≤ p.2 ∧ p.2 ≤ 1000 := hV
    rw [f49_eq]; unfold c49; rw [callFn_eq (by rfl)]
    simp (disch := first | assumption | omega | (simp (disch := first | assumption | omega) only [sB, Nat.reduceAdd, Nat.reduceLT, Nat.reduceLeDiff, Nat.reduceEqDiff, Nat.reduceMul, ↓reduceIte]; done) | fail) only [sA, ↓reduceIte, Nat.reduceLT, Nat.reduceEqDiff, Nat.reduceAdd, Nat.reduceLeDiff, c0]
    generalize hr : LX (cFk kS Go.Proofs.Try.prog) (.loop l49_0) _ _ _ = r
    obtain ⟨x, e2, n2, h2, rfl, rfl, H2, g5⟩ := loop_up hr s.el.length
      (fun i e n' h' => Hp n h n' h' ∧ get (po 1) e = slD 1 encN v ∧ get (po 5) e = .int .i64 (Lev.val ⟨N, s.el.take i⟩ (rv v.el)) ∧ get (po 15) e = slD 2 encV s ∧ get (po 16) e = .int .i64 (s.el.length : Nat) ∧ get (po 17) e = .int .i64 (i : Nat))
      (fun x e n' h' => x = .exit 0 ∧ Hp n h n' h' ∧ get (po 5) e = .int .i64 (Lev.val ⟨N, s.el⟩ (rv v.el)))
      (by
        rintro e n' h' ⟨H, g1, g5, g15, g16, g17⟩
        rw [List.take_length] at g5
        unfold l49_0
        simp (disch := first | assumption | omega | (simp (disch := first | assumption | omega) only [sB, Nat.reduceAdd, Nat.reduceLT, Nat.reduceLeDiff, Nat.reduceEqDiff, Nat.reduceMul, ↓reduceIte]; done) | fail) only [sA, ↓reduceIte, Nat.reduceLT, Nat.reduceEqDiff, Nat.reduceAdd, Nat.reduceLeDiff, g16, g17]
        exact ⟨_, _, _, _, rfl, by simp, rfl, H.mono (by omega), by simp (disch := first | assumption | omega | (simp (disch := first | assumption | omega) only [sB, Nat.reduceAdd, Nat.reduceLT, Nat.reduceLeDiff, Nat.reduceEqDiff, Nat.reduceMul, ↓reduceIte]; done) | fail) only [sA, ↓reduceIte, Nat.reduceLT, Nat.reduceEqDiff, Nat.reduceAdd, Nat.reduceLeDiff, g5]⟩)
      (by
        rintro i e n' h' hi ⟨H, g1, g5, g15, g16, g17⟩
        have hn := H.le
        have hp := hV s.el[i] (List.getElem_mem hi)
        have hsn := val_snoc N (s.el.take i) s.el[i] (rv v.el)
        rw [← take_snoc hi] at hsn
        generalize hW : s.el[i] = W at hp hsn
        obtain ⟨va, vb⟩ := W
        obtain ⟨vn, rfl⟩ : ∃ vn : Nat, va = (vn : Int) := Int.eq_ofNat_of_zero_le hp.1.1
        replace hsn : Lev.val ⟨N, s.el.take (i + 1)⟩ (rv v.el) = max (Lev.val ⟨N, s.el.take i⟩ (rv v.el)) (rv v.el (vn : Int) + vb) := hsn
        replace hp : (0 ≤ (vn : Int) ∧ (vn : Int) ≤ 1000) ∧ 0 ≤ vb ∧ vb ≤ 1000 := hp
        generalize Lev.val ⟨N, s.el.take i⟩ (rv v.el) = A at g5 hsn
        unfold l49_0
        by_cases a1 : vn < v.el.length
        · have hx := hv v.el[vn] (List.getElem_mem a1)
          rw [rv_in a1] at hsn
          have hm1 : 0 ≤ max 0 v.el[vn] := Int.le_max_left _ _
          have hm2 : max 0 v.el[vn] ≤ 1000000 := by omega
          simp (disch := first | assumption | omega | (simp (disch := first | assumption | omega) only [sB, Nat.reduceAdd, Nat.reduceLT, Nat.reduceLeDiff, Nat.reduceEqDiff, Nat.reduceMul, ↓reduceIte]; done) | fail) only [sA, ↓reduceIte, Nat.reduceLT, Nat.reduceEqDiff, Nat.reduceAdd, Nat.reduceLeDiff, g1, g5, g15, g16, g17, hW, encV, encN]
          exact ⟨_, _, _, _, rfl, .inl ⟨rfl, (H.box (r := n' + 3) (m := n' + 4) (by omega) (by omega) rfl).mono (by omega), by simp (disch := first | assumption | omega | (simp (disch := first | assumption | omega) only [sB, Nat.reduceAdd, Nat.reduceLT, Nat.reduceLeDiff, Nat.reduceEqDiff, Nat.reduceMul, ↓reduceIte]; done) | fail) only [sA, ↓reduceIte, Nat.reduceLT, Nat.reduceEqDiff, Nat.reduceAdd, Nat.reduceLeDiff, g1], by rw [hsn]; simp (disch := first | assumption | omega | (simp (disch := first | assumption | omega) only [sB, Nat.reduceAdd, Nat.reduceLT, Nat.reduceLeDiff, Nat.reduceEqDiff, Nat.reduceMul, ↓reduceIte]; done) | fail) only [sA, ↓reduceIte, Nat.reduceLT, Nat.reduceEqDiff, Nat.reduceAdd, Nat.reduceLeDiff], by simp (disch := first | assumption | omega | (simp (disch := first | assumption | omega) only [sB, Nat.reduceAdd, Nat.reduceLT, Nat.reduceLeDiff, Nat.reduceEqDiff, Nat.reduceMul, ↓reduceIte]; done) | fail) only [sA, ↓reduceIte, Nat.reduceLT, Nat.reduceEqDiff, Nat.reduceAdd, Nat.reduceLeDiff, g15], by simp (disch := first | assumption | omega | (simp (disch := first | assumption | omega) only [sB, Nat.reduceAdd, Nat.reduceLT, Nat.reduceLeDiff, Nat.reduceEqDiff, Nat.reduceMul, ↓reduceIte]; done) | fail) only [sA, ↓reduceIte, Nat.reduceLT, Nat.reduceEqDiff, Nat.reduceAdd, Nat.reduceLeDiff, g16], by simp (disch := first | assumption | omega | (simp (disch := first | assumption | omega) only [sB, Nat.reduceAdd, Nat.reduceLT, Nat.reduceLeDiff, Nat.reduceEqDiff, Nat.reduceMul, ↓reduceIte]; done) | fail) only [sA, ↓reduceIte, Nat.reduceLT, Nat.reduceEqDiff, Nat.reduceAdd, Nat.reduceLeDiff]⟩⟩
        · rw [rv_out a1] at hsn
          simp (disch := first | assumption | omega | (simp (disch := first | assumption | omega) only [sB, Nat.reduceAdd, Nat.reduceLT, Nat.reduceLeDiff, Nat.reduceEqDiff, Nat.reduceMul, ↓reduceIte]; done) | fail) only [sA, ↓reduceIte, Nat.reduceLT, Nat.reduceEqDiff, Nat.reduceAdd, Nat.reduceLeDiff, g1, g5, g15, g16, g17, hW, encV, encN]
          exact ⟨_, _, _, _, rfl, .inl ⟨rfl, (H.box (r := n' + 3) (m := n' + 4) (by omega) (by omega) rfl).mono (by omega), by simp (disch := first | assumption | omega | (simp (disch := first | assumption | omega) only [sB, Nat.reduceAdd, Nat.reduceLT, Nat.reduceLeDiff, Nat.reduceEqDiff, Nat.reduceMul, ↓reduceIte]; done) | fail) only [sA, ↓reduceIte, Nat.reduceLT, Nat.reduceEqDiff, Nat.reduceAdd, Nat.reduceLeDiff, g1], by rw [hsn]; simp (disch := first | assumption | omega | (simp (disch := first | assumption | omega) only [sB, Nat.reduceAdd, Nat.reduceLT, Nat.reduceLeDiff, Nat.reduceEqDiff, Nat.reduceMul, ↓reduceIte]; done) | fail) only [sA, ↓reduceIte, Nat.reduceLT, Nat.reduceEqDiff, Nat.reduceAdd, Nat.reduceLeDiff], by simp (disch := first | assumption | omega | (simp (disch := first | assumption | omega) only [sB, Nat.reduceAdd, Nat.reduceLT, Nat.reduceLeDiff, Nat.reduceEqDiff, Nat.reduceMul, ↓reduceIte]; done) | fail) only [sA, ↓reduceIte, Nat.reduceLT, Nat.reduceEqDiff, Nat.reduceAdd, Nat.reduceLeDiff, g15], by simp (disch := first | assumption | omega | (simp (disch := first | assumption | omega) only [sB, Nat.reduceAdd, Nat.reduceLT, Nat.reduceLeDiff, Nat.reduceEqDiff, Nat.reduceMul, ↓reduceIte]; done) | fail) only [sA, ↓reduceIte, Nat.reduceLT, Nat.reduceEqDiff, Nat.reduceAdd, Nat.reduceLeDiff, g16], by simp (disch := first | assumption | omega | (simp (disch := first | assumption | omega) only [sB, Nat.reduceAdd, Nat.reduceLT, Nat.reduceLeDiff, Nat.reduceEqDiff, Nat.reduceMul, ↓reduceIte]; done) | fail) only [sA, ↓reduceIte, Nat.reduceLT, Nat.reduceEqDiff, Nat.reduceAdd, Nat.reduceLeDiff]⟩⟩)
      ⟨H0.mono (by omega), by simp (disch := first | assumption | omega | (simp (disch := first | assumption | omega) only [sB, Nat.reduceAdd, Nat.reduceLT, Nat.reduceLeDiff, Nat.reduceEqDiff, Nat.reduceMul, ↓reduceIte]; done) | fail) only [sA, ↓reduceIte, Nat.reduceLT, Nat.reduceEqDiff, Nat.reduceAdd, Nat.reduceLeDiff], by simp (disch := first | assumption | omega | (simp (disch := first | assumption | omega) only [sB, Nat.reduceAdd, Nat.reduceLT, Nat.reduceLeDiff, Nat.reduceEqDiff, Nat.reduceMul, ↓reduceIte]; done) | fail) only [sA, ↓reduceIte, Nat.reduceLT, Nat.reduceEqDiff, Nat.reduceAdd, Nat.reduceLeDiff]; rfl, by simp (disch := first | assumption | omega | (simp (disch := first | assumption | omega) only [sB, Nat.reduceAdd, Nat.reduceLT, Nat.reduceLeDiff, Nat.reduceEqDiff, Nat.reduceMul, ↓reduceIte]; done) | fail) only [sA, ↓reduceIte, Nat.reduceLT, Nat.reduceEqDiff, Nat.reduceAdd, Nat.reduceLeDiff], by simp (disch := first | assumption | omega | (simp (disch := first | assumption | omega) only [sB, Nat.reduceAdd, Nat.reduceLT, Nat.reduceLeDiff, Nat.reduceEqDiff, Nat.reduceMul, ↓reduceIte]; done) | fail) only [sA, ↓reduceIte, Nat.reduceLT, Nat.reduceEqDiff, Nat.reduceAdd, Nat.reduceLeDiff], by simp (disch := first | assumption | omega | (simp (disch := first | assumption | omega) only [sB, Nat.reduceAdd, Nat.reduceLT, Nat.reduceLeDiff, Nat.reduceEqDiff, Nat.reduceMul, ↓reduceIte]; done) | fail) only [sA, ↓reduceIte, Nat.reduceLT, Nat.reduceEqDiff, Nat.reduceAdd, Nat.reduceLeDiff]⟩
    simp (disch := first | assumption | omega | (simp (disch := first | assumption | omega) only [sB, Nat.reduceAdd, Nat.reduceLT, Nat.reduceLeDiff, Nat.reduceEqDiff, Nat.reduceMul, ↓reduceIte]; done) | fail) only [sA, ↓reduceIte, Nat.reduceLT, Nat.reduceEqDiff, Nat.reduceAdd, Nat.reduceLeDiff, g5, finish_flat (d := .int .i64 (Lev.val ⟨N, s.el⟩ (rv v.el))) rfl (H2.mono (show n2 ≤ n2 + 2 by omega))]

set_option maxHeartbeats 4000000 in
theorem refEval (N : Int) (s : Sl LV) (hs : s.el.length < 1000000000000) (v : Sl Int) (hv : ∀ x, x ∈ v.el → x ≤ 1000000) (hl : v.el.length < 1000000000000) :
    callFn (LX (cFk kS Go.Proofs.Try.prog)) n h [(D.agg [.int .i64 (N), slD 2 encV (s)]), slD 1 encN v] (cFk kS Go.Proofs.Try.prog 46) = .ok (.int .i64 (Lev.eval ⟨N, s.el⟩ v.el)) n h := by
  have hgn := hg n (Nat.le_refl _)
  have H0 : Hp n h (n + 1) ((n, (Ob.row 2 [.agg [.int .i64 (N), slD 2 encV (s)]])) :: h) := (Hp.start hg).box (r := n) (m := n + 1) (Nat.le_refl _) (by omega) (flatL ⟨N, s⟩)
  have c0 : ∀ m, n + 1 ≤ m → callFn (LX (cFk kS Go.Proofs.Try.prog)) m ((n, (Ob.row 2 [.agg [.int .i64 (N), slD 2 encV (s)]])) :: h) [(D.agg [.int .i64 (N), slD 2 encV (s)])] (cFk kS Go.Proofs.Try.prog 70) = .ok (.bool (Lev.right ⟨N, s.el⟩)) m ((n, (Ob.row 2 [.agg [.int .i64 (N), slD 2 encV (s)]])) :: h) := fun m hm => refRight m _ (H0.good' hm) N _ _ _ (svV s) hs
  unfold Lev.eval
  cases hb : Lev.right ⟨N, s.el⟩ with
  | false =>
    rw [hb] at c0
    rw [if_neg (by decide)]
    rw [f46_eq]; unfold c46; rw [callFn_eq (by rfl)]
    simp (disch := first | assumption | omega | (simp (disch := first | assumption | omega) only [sB, Nat.reduceAdd, Nat.reduceLT, Nat.reduceLeDiff, Nat.reduceEqDiff, Nat.reduceMul, ↓reduceIte]; done) | fail) only [sA, ↓reduceIte, Nat.reduceLT, Nat.reduceEqDiff, Nat.reduceAdd, Nat.reduceLeDiff, c0]
  | true =>
    rw [hb] at c0
    rw [if_pos rfl]
    obtain ⟨hN, h64, hV⟩ := right_iff.1 hb
    replace h64 : s.el.length ≤ 64 := h64
    replace hN : 0 ≤ N ∧ N ≤ 1000 := hN
    replace hV : ∀ p, p ∈ s.el → (0 ≤ p.1 ∧ p.1 ≤ 1000) ∧ 0 ≤ p.2 ∧ p.2 ≤ 1000 := hV
    rw [f46_eq]; unfold c46; rw [callFn_eq (by rfl)]
    simp (disch := first | assumption | omega | (simp (disch := first | assumption | omega) only [sB, Nat.reduceAdd, Nat.reduceLT, Nat.reduceLeDiff, Nat.reduceEqDiff, Nat.reduceMul, ↓reduceIte]; done) | fail) only [sA, ↓reduceIte, Nat.reduceLT, Nat.reduceEqDiff, Nat.reduceAdd, Nat.reduceLeDiff, c0]
    generalize hr : LX (cFk kS Go.Proofs.Try.prog) (.loop l46_0) _ _ _ = r
    obtain ⟨x, e2, n2, h2, rfl, rfl, H2, g6⟩ := loop_up hr s.el.length
      (fun i e n' h' => Hp n h n' h' ∧ n + 1 ≤ n' ∧ getO h' n = (Ob.row 2 [.agg [.int .i64 (N), slD 2 encV (s)]]) ∧ get (po 1) e = slD 1 encN v ∧ get (po 2) e = .ptr n 0 0 ∧ get (po 6) e = .int .i64 (Lev.val ⟨N, s.el.take i⟩ (rv v.el)) ∧ get (po 7) e = .int .i64 (i : Nat))
      (fun x e n' h' => x = .exit 0 ∧ Hp n h n' h' ∧ get (po 6) e = .int .i64 (Lev.val ⟨N, s.el⟩ (rv v.el)))
      (by
        rintro e n' h' ⟨H, p1, b0, g1, g2, g6, g7⟩
        rw [List.take_length] at g6
        unfold l46_0
        simp (disch := first | assumption | omega | (simp (disch := first | assumption | omega) only [sB, Nat.reduceAdd, Nat.reduceLT, Nat.reduceLeDiff, Nat.reduceEqDiff, Nat.reduceMul, ↓reduceIte]; done) | fail) only [sA, ↓reduceIte, Nat.reduceLT, Nat.reduceEqDiff, Nat.reduceAdd, Nat.reduceLeDiff, g2, g7, b0]
        exact ⟨_, _, _, _, rfl, by simp, rfl, H.mono (by omega), by simp (disch := first | assumption | omega | (simp (disch := first | assumption | omega) only [sB, Nat.reduceAdd, Nat.reduceLT, Nat.reduceLeDiff, Nat.reduceEqDiff, Nat.reduceMul, ↓reduceIte]; done) | fail) only [sA, ↓reduceIte, Nat.reduceLT, Nat.reduceEqDiff, Nat.reduceAdd, Nat.reduceLeDiff, g6]⟩)
      (by
        rintro i e n' h' hi ⟨H, p1, b0, g1, g2, g6, g7⟩
        have hn := H.le
        have hp := hV s.el[i] (List.getElem_mem hi)
        have hsn := val_snoc N (s.el.take i) s.el[i] (rv v.el)
        rw [← take_snoc hi] at hsn
        generalize hW : s.el[i] = W at hp hsn
        obtain ⟨va, vb⟩ := W
        obtain ⟨vn, rfl⟩ : ∃ vn : Nat, va = (vn : Int) := Int.eq_ofNat_of_zero_le hp.1.1
        replace hsn : Lev.val ⟨N, s.el.take (i + 1)⟩ (rv v.el) = max (Lev.val ⟨N, s.el.take i⟩ (rv v.el)) (rv v.el (vn : Int) + vb) := hsn
        replace hp : (0 ≤ (vn : Int) ∧ (vn : Int) ≤ 1000) ∧ 0 ≤ vb ∧ vb ≤ 1000 := hp
        generalize Lev.val ⟨N, s.el.take i⟩ (rv v.el) = A at g6 hsn
        unfold l46_0
        by_cases a1 : vn < v.el.length
        · have hx := hv v.el[vn] (List.getElem_mem a1)
          rw [rv_in a1] at hsn
          by_cases a2 : v.el[vn] > 0
          · rw [show max 0 v.el[vn] = v.el[vn] by omega] at hsn
            by_cases a3 : v.el[vn] + vb > A
            · rw [show max A (v.el[vn] + vb) = v.el[vn] + vb by omega] at hsn
              simp (disch := first | assumption | omega | (simp (disch := first | assumption | omega) only [sB, Nat.reduceAdd, Nat.reduceLT, Nat.reduceLeDiff, Nat.reduceEqDiff, Nat.reduceMul, ↓reduceIte]; done) | fail) only [sA, ↓reduceIte, Nat.reduceLT, Nat.reduceEqDiff, Nat.reduceAdd, Nat.reduceLeDiff, g1, g2, g6, g7, b0, hW, encV, encN, a2, a3]
              exact ⟨_, _, _, _, rfl, .inl ⟨rfl, H.mono (by omega), by omega, b0, by simp (disch := first | assumption | omega | (simp (disch := first | assumption | omega) only [sB, Nat.reduceAdd, Nat.reduceLT, Nat.reduceLeDiff, Nat.reduceEqDiff, Nat.reduceMul, ↓reduceIte]; done) | fail) only [sA, ↓reduceIte, Nat.reduceLT, Nat.reduceEqDiff, Nat.reduceAdd, Nat.reduceLeDiff, g1], by simp (disch := first | assumption | omega | (simp (disch := first | assumption | omega) only [sB, Nat.reduceAdd, Nat.reduceLT, Nat.reduceLeDiff, Nat.reduceEqDiff, Nat.reduceMul, ↓reduceIte]; done) | fail) only [sA, ↓reduceIte, Nat.reduceLT, Nat.reduceEqDiff, Nat.reduceAdd, Nat.reduceLeDiff, g2], by rw [hsn]; simp (disch := first | assumption | omega | (simp (disch := first | assumption | omega) only [sB, Nat.reduceAdd, Nat.reduceLT, Nat.reduceLeDiff, Nat.reduceEqDiff, Nat.reduceMul, ↓reduceIte]; done) | fail) only [sA, ↓reduceIte, Nat.reduceLT, Nat.reduceEqDiff, Nat.reduceAdd, Nat.reduceLeDiff], by simp (disch := first | assumption | omega | (simp (disch := first | assumption | omega) only [sB, Nat.reduceAdd, Nat.reduceLT, Nat.reduceLeDiff, Nat.reduceEqDiff, Nat.reduceMul, ↓reduceIte]; done) | fail) only [sA, ↓reduceIte, Nat.reduceLT, Nat.reduceEqDiff, Nat.reduceAdd, Nat.reduceLeDiff]⟩⟩
            · rw [show max A (v.el[vn] + vb) = A by omega] at hsn
              simp (disch := first | assumption | omega | (simp (disch := first | assumption | omega) only [sB, Nat.reduceAdd, Nat.reduceLT, Nat.reduceLeDiff, Nat.reduceEqDiff, Nat.reduceMul, ↓reduceIte]; done) | fail) only [sA, ↓reduceIte, Nat.reduceLT, Nat.reduceEqDiff, Nat.reduceAdd, Nat.reduceLeDiff, g1, g2, g6, g7, b0, hW, encV, encN, a2, a3]
              exact ⟨_, _, _, _, rfl, .inl ⟨rfl, H.mono (by omega), by omega, b0, by simp (disch := first | assumption | omega | (simp (disch := first | assumption | omega) only [sB, Nat.reduceAdd, Nat.reduceLT, Nat.reduceLeDiff, Nat.reduceEqDiff, Nat.reduceMul, ↓reduceIte]; done) | fail) only [sA, ↓reduceIte, Nat.reduceLT, Nat.reduceEqDiff, Nat.reduceAdd, Nat.reduceLeDiff, g1], by simp (disch := first | assumption | omega | (simp (disch := first | assumption | omega) only [sB, Nat.reduceAdd, Nat.reduceLT, Nat.reduceLeDiff, Nat.reduceEqDiff, Nat.reduceMul, ↓reduceIte]; done) | fail) only [sA, ↓reduceIte, Nat.reduceLT, Nat.reduceEqDiff, Nat.reduceAdd, Nat.reduceLeDiff, g2], by rw [hsn]; simp (disch := first | assumption | omega | (simp (disch := first | assumption | omega) only [sB, Nat.reduceAdd, Nat.reduceLT, Nat.reduceLeDiff, Nat.reduceEqDiff, Nat.reduceMul, ↓reduceIte]; done) | fail) only [sA, ↓reduceIte, Nat.reduceLT, Nat.reduceEqDiff, Nat.reduceAdd, Nat.reduceLeDiff, g6], by simp (disch := first | assumption | omega | (simp (disch := first | assumption | omega) only [sB, Nat.reduceAdd, Nat.reduceLT, Nat.reduceLeDiff, Nat.reduceEqDiff, Nat.reduceMul, ↓reduceIte]; done) | fail) only [sA, ↓reduceIte, Nat.reduceLT, Nat.reduceEqDiff, Nat.reduceAdd, Nat.reduceLeDiff]⟩⟩
          · rw [show max 0 v.el[vn] = 0 by omega] at hsn
            by_cases a3 : 0 + vb > A
            · rw [show max A (0 + vb) = 0 + vb by omega] at hsn
              simp (disch := first | assumption | omega | (simp (disch := first | assumption | omega) only [sB, Nat.reduceAdd, Nat.reduceLT, Nat.reduceLeDiff, Nat.reduceEqDiff, Nat.reduceMul, ↓reduceIte]; done) | fail) only [sA, ↓reduceIte, Nat.reduceLT, Nat.reduceEqDiff, Nat.reduceAdd, Nat.reduceLeDiff, g1, g2, g6, g7, b0, hW, encV, encN, a2, a3]
              exact ⟨_, _, _, _, rfl, .inl ⟨rfl, H.mono (by omega), by omega, b0, by simp (disch := first | assumption | omega | (simp (disch := first | assumption | omega) only [sB, Nat.reduceAdd, Nat.reduceLT, Nat.reduceLeDiff, Nat.reduceEqDiff, Nat.reduceMul, ↓reduceIte]; done) | fail) only [sA, ↓reduceIte, Nat.reduceLT, Nat.reduceEqDiff, Nat.reduceAdd, Nat.reduceLeDiff, g1], by simp (disch := first | assumption | omega | (simp (disch := first | assumption | omega) only [sB, Nat.reduceAdd, Nat.reduceLT, Nat.reduceLeDiff, Nat.reduceEqDiff, Nat.reduceMul, ↓reduceIte]; done) | fail) only [sA, ↓reduceIte, Nat.reduceLT, Nat.reduceEqDiff, Nat.reduceAdd, Nat.reduceLeDiff, g2], by rw [hsn]; simp (disch := first | assumption | omega | (simp (disch := first | assumption | omega) only [sB, Nat.reduceAdd, Nat.reduceLT, Nat.reduceLeDiff, Nat.reduceEqDiff, Nat.reduceMul, ↓reduceIte]; done) | fail) only [sA, ↓reduceIte, Nat.reduceLT, Nat.reduceEqDiff, Nat.reduceAdd, Nat.reduceLeDiff], by simp (disch := first | assumption | omega | (simp (disch := first | assumption | omega) only [sB, Nat.reduceAdd, Nat.reduceLT, Nat.reduceLeDiff, Nat.reduceEqDiff, Nat.reduceMul, ↓reduceIte]; done) | fail) only [sA, ↓reduceIte, Nat.reduceLT, Nat.reduceEqDiff, Nat.reduceAdd, Nat.reduceLeDiff]⟩⟩
            · rw [show max A (0 + vb) = A by omega] at hsn
              simp (disch := first | assumption | omega | (simp (disch := first | assumption | omega) only [sB, Nat.reduceAdd, Nat.reduceLT, Nat.reduceLeDiff, Nat.reduceEqDiff, Nat.reduceMul, ↓reduceIte]; done) | fail) only [sA, ↓reduceIte, Nat.reduceLT, Nat.reduceEqDiff, Nat.reduceAdd, Nat.reduceLeDiff, g1, g2, g6, g7, b0, hW, encV, encN, a2, a3]
              exact ⟨_, _, _, _, rfl, .inl ⟨rfl, H.mono (by omega), by omega, b0, by simp (disch := first | assumption | omega | (simp (disch := first | assumption | omega) only [sB, Nat.reduceAdd, Nat.reduceLT, Nat.reduceLeDiff, Nat.reduceEqDiff, Nat.reduceMul, ↓reduceIte]; done) | fail) only [sA, ↓reduceIte, Nat.reduceLT, Nat.reduceEqDiff, Nat.reduceAdd, Nat.reduceLeDiff, g1], by simp (disch := first | assumption | omega | (simp (disch := first | assumption | omega) only [sB, Nat.reduceAdd, Nat.reduceLT, Nat.reduceLeDiff, Nat.reduceEqDiff, Nat.reduceMul, ↓reduceIte]; done) | fail) only [sA, ↓reduceIte, Nat.reduceLT, Nat.reduceEqDiff, Nat.reduceAdd, Nat.reduceLeDiff, g2], by rw [hsn]; simp (disch := first | assumption | omega | (simp (disch := first | assumption | omega) only [sB, Nat.reduceAdd, Nat.reduceLT, Nat.reduceLeDiff, Nat.reduceEqDiff, Nat.reduceMul, ↓reduceIte]; done) | fail) only [sA, ↓reduceIte, Nat.reduceLT, Nat.reduceEqDiff, Nat.reduceAdd, Nat.reduceLeDiff, g6], by simp (disch := first | assumption | omega | (simp (disch := first | assumption | omega) only [sB, Nat.reduceAdd, Nat.reduceLT, Nat.reduceLeDiff, Nat.reduceEqDiff, Nat.reduceMul, ↓reduceIte]; done) | fail) only [sA, ↓reduceIte, Nat.reduceLT, Nat.reduceEqDiff, Nat.reduceAdd, Nat.reduceLeDiff]⟩⟩
        · rw [rv_out a1] at hsn
          by_cases a3 : 0 + vb > A
          · rw [show max A (0 + vb) = 0 + vb by omega] at hsn
            simp (disch := first | assumption | omega | (simp (disch := first | assumption | omega) only [sB, Nat.reduceAdd, Nat.reduceLT, Nat.reduceLeDiff, Nat.reduceEqDiff, Nat.reduceMul, ↓reduceIte]; done) | fail) only [sA, ↓reduceIte, Nat.reduceLT, Nat.reduceEqDiff, Nat.reduceAdd, Nat.reduceLeDiff, g1, g2, g6, g7, b0, hW, encV, encN, a3]
            exact ⟨_, _, _, _, rfl, .inl ⟨rfl, H.mono (by omega), by omega, b0, by simp (disch := first | assumption | omega | (simp (disch := first | assumption | omega) only [sB, Nat.reduceAdd, Nat.reduceLT, Nat.reduceLeDiff, Nat.reduceEqDiff, Nat.reduceMul, ↓reduceIte]; done) | fail) only [sA, ↓reduceIte, Nat.reduceLT, Nat.reduceEqDiff, Nat.reduceAdd, Nat.reduceLeDiff, g1], by simp (disch := first | assumption | omega | (simp (disch := first | assumption | omega) only [sB, Nat.reduceAdd, Nat.reduceLT, Nat.reduceLeDiff, Nat.reduceEqDiff, Nat.reduceMul, ↓reduceIte]; done) | fail) only [sA, ↓reduceIte, Nat.reduceLT, Nat.reduceEqDiff, Nat.reduceAdd, Nat.reduceLeDiff, g2], by rw [hsn]; simp (disch := first | assumption | omega | (simp (disch := first | assumption | omega) only [sB, Nat.reduceAdd, Nat.reduceLT, Nat.reduceLeDiff, Nat.reduceEqDiff, Nat.reduceMul, ↓reduceIte]; done) | fail) only [sA, ↓reduceIte, Nat.reduceLT, Nat.reduceEqDiff, Nat.reduceAdd, Nat.reduceLeDiff], by simp (disch := first | assumption | omega | (simp (disch := first | assumption | omega) only [sB, Nat.reduceAdd, Nat.reduceLT, Nat.reduceLeDiff, Nat.reduceEqDiff, Nat.reduceMul, ↓reduceIte]; done) | fail) only [sA, ↓reduceIte, Nat.reduceLT, Nat.reduceEqDiff, Nat.reduceAdd, Nat.reduceLeDiff]⟩⟩
          · rw [show max A (0 + vb) = A by omega] at hsn
            simp (disch := first | assumption | omega | (simp (disch := first | assumption | omega) only [sB, Nat.reduceAdd, Nat.reduceLT, Nat.reduceLeDiff, Nat.reduceEqDiff, Nat.reduceMul, ↓reduceIte]; done) | fail) only [sA, ↓reduceIte, Nat.reduceLT, Nat.reduceEqDiff, Nat.reduceAdd, Nat.reduceLeDiff, g1, g2, g6, g7, b0, hW, encV, encN, a3]
            exact ⟨_, _, _, _, rfl, .inl ⟨rfl, H.mono (by omega), by omega, b0, by simp (disch := first | assumption | omega | (simp (disch := first | assumption | omega) only [sB, Nat.reduceAdd, Nat.reduceLT, Nat.reduceLeDiff, Nat.reduceEqDiff, Nat.reduceMul, ↓reduceIte]; done) | fail) only [sA, ↓reduceIte, Nat.reduceLT, Nat.reduceEqDiff, Nat.reduceAdd, Nat.reduceLeDiff, g1], by simp (disch := first | assumption | omega | (simp (disch := first | assumption | omega) only [sB, Nat.reduceAdd, Nat.reduceLT, Nat.reduceLeDiff, Nat.reduceEqDiff, Nat.reduceMul, ↓reduceIte]; done) | fail) only [sA, ↓reduceIte, Nat.reduceLT, Nat.reduceEqDiff, Nat.reduceAdd, Nat.reduceLeDiff, g2], by rw [hsn]; simp (disch := first | assumption | omega | (simp (disch := first | assumption | omega) only [sB, Nat.reduceAdd, Nat.reduceLT, Nat.reduceLeDiff, Nat.reduceEqDiff, Nat.reduceMul, ↓reduceIte]; done) | fail) only [sA, ↓reduceIte, Nat.reduceLT, Nat.reduceEqDiff, Nat.reduceAdd, Nat.reduceLeDiff, g6], by simp (disch := first | assumption | omega | (simp (disch := first | assumption | omega) only [sB, Nat.reduceAdd, Nat.reduceLT, Nat.reduceLeDiff, Nat.reduceEqDiff, Nat.reduceMul, ↓reduceIte]; done) | fail) only [sA, ↓reduceIte, Nat.reduceLT, Nat.reduceEqDiff, Nat.reduceAdd, Nat.reduceLeDiff]⟩⟩)
      ⟨H0.mono (by omega), by omega, by simp (disch := first | assumption | omega | (simp (disch := first | assumption | omega) only [sB, Nat.reduceAdd, Nat.reduceLT, Nat.reduceLeDiff, Nat.reduceEqDiff, Nat.reduceMul, ↓reduceIte]; done) | fail) only [sA, ↓reduceIte, Nat.reduceLT, Nat.reduceEqDiff, Nat.reduceAdd, Nat.reduceLeDiff], by simp (disch := first | assumption | omega | (simp (disch := first | assumption | omega) only [sB, Nat.reduceAdd, Nat.reduceLT, Nat.reduceLeDiff, Nat.reduceEqDiff, Nat.reduceMul, ↓reduceIte]; done) | fail) only [sA, ↓reduceIte, Nat.reduceLT, Nat.reduceEqDiff, Nat.reduceAdd, Nat.reduceLeDiff], by simp (disch := first | assumption | omega | (simp (disch := first | assumption | omega) only [sB, Nat.reduceAdd, Nat.reduceLT, Nat.reduceLeDiff, Nat.reduceEqDiff, Nat.reduceMul, ↓reduceIte]; done) | fail) only [sA, ↓reduceIte, Nat.reduceLT, Nat.reduceEqDiff, Nat.reduceAdd, Nat.reduceLeDiff], by simp (disch := first | assumption | omega | (simp (disch := first | assumption | omega) only [sB, Nat.reduceAdd, Nat.reduceLT, Nat.reduceLeDiff, Nat.reduceEqDiff, Nat.reduceMul, ↓reduceIte]; done) | fail) only [sA, ↓reduceIte, Nat.reduceLT, Nat.reduceEqDiff, Nat.reduceAdd, Nat.reduceLeDiff]; rfl, by simp (disch := first | assumption | omega | (simp (disch := first | assumption | omega) only [sB, Nat.reduceAdd, Nat.reduceLT, Nat.reduceLeDiff, Nat.reduceEqDiff, Nat.reduceMul, ↓reduceIte]; done) | fail) only [sA, ↓reduceIte, Nat.reduceLT, Nat.reduceEqDiff, Nat.reduceAdd, Nat.reduceLeDiff]⟩
    simp (disch := first | assumption | omega | (simp (disch := first | assumption | omega) only [sB, Nat.reduceAdd, Nat.reduceLT, Nat.reduceLeDiff, Nat.reduceEqDiff, Nat.reduceMul, ↓reduceIte]; done) | fail) only [sA, ↓reduceIte, Nat.reduceLT, Nat.reduceEqDiff, Nat.reduceAdd, Nat.reduceLeDiff, g6, finish_flat (d := .int .i64 (Lev.val ⟨N, s.el⟩ (rv v.el))) rfl (H2.mono (show n2 ≤ n2 + 2 by omega))]

set_option maxHeartbeats 4000000 in
theorem lvBoundA (N : Int) (s : Sl LV) : callFn (LX (cFk kS Go.Proofs.Try.prog)) n h [(D.agg [.int .i64 (N), slD 2 encV (s)])] (cFk kS Go.Proofs.Try.prog 53) = .ok (.int .i64 (Lev.bound ⟨N, s.el⟩)) n h := by
  have hgn := hg n (Nat.le_refl _)
  have H0 : Hp n h (n + 1) ((n, (Ob.row 2 [.agg [.int .i64 (N), slD 2 encV (s)]])) :: h) := (Hp.start hg).box (r := n) (m := n + 1) (Nat.le_refl _) (by omega) (flatL ⟨N, s⟩)
  have c0 : ∀ m, n + 1 ≤ m → callFn (LX (cFk kS Go.Proofs.Try.prog)) m ((n, (Ob.row 2 [.agg [.int .i64 (N), slD 2 encV (s)]])) :: h) [(D.agg [.int .i64 (N), slD 2 encV (s)])] (cFk kS Go.Proofs.Try.prog 68) = .ok (.bool (Lev.right ⟨N, s.el⟩)) m ((n, (Ob.row 2 [.agg [.int .i64 (N), slD 2 encV (s)]])) :: h) := fun m hm => lvRightA m _ (H0.good' hm) N _ _ _ (svV s)
  unfold Lev.bound
  cases hb : Lev.right ⟨N, s.el⟩ with
  | false =>
    rw [hb] at c0
    rw [if_neg (by decide)]
    rw [f53_eq]; unfold c53; rw [callFn_eq (by rfl)]
    simp (disch := first | assumption | omega | (simp (disch := first | assumption | omega) only [sB, Nat.reduceAdd, Nat.reduceLT, Nat.reduceLeDiff, Nat.reduceEqDiff, Nat.reduceMul, ↓reduceIte]; done) | fail) only [sA, ↓reduceIte, Nat.reduceLT, Nat.reduceEqDiff, Nat.reduceAdd, Nat.reduceLeDiff, c0]
  | true =>
    rw [hb] at c0
    rw [if_pos rfl]
    obtain ⟨hN, h64, hV⟩ := right_iff.1 hb
    replace h64 : s.el.length ≤ 64 := h64
    replace hV : ∀ p, p ∈ s.el → (0 ≤ p.1 ∧ p.1 ≤ 1000) ∧ 0 ≤ p.2 ∧ p.2 ≤ 1000 := hV
    rw [f53_eq]; unfold c53; rw [callFn_eq (by rfl)]
    simp (disch := first | assumption | omega | (simp (disch := first | assumption | omega) only [sB, Nat.reduceAdd, Nat.reduceLT, Nat.reduceLeDiff, Nat.reduceEqDiff, Nat.reduceMul, ↓reduceIte]; done) | fail) only [sA, ↓reduceIte, Nat.reduceLT, Nat.reduceEqDiff, Nat.reduceAdd, Nat.reduceLeDiff, c0]
    generalize hr : LX (cFk kS Go.Proofs.Try.prog) (.loop l53_0) _ _ _ = r
    obtain ⟨x, e2, n2, h2, rfl, rfl, H2, g3⟩ := loop_up hr s.el.length
      (fun i e n' h' => Hp n h n' h' ∧ get (po 3) e = .int .i64 (Lev.bnd ⟨N, s.el.take i⟩) ∧ get (po 10) e = slD 2 encV s ∧ get (po 11) e = .int .i64 (s.el.length : Nat) ∧ get (po 12) e = .int .i64 (i : Nat))
      (fun x e n' h' => x = .exit 0 ∧ Hp n h n' h' ∧ get (po 3) e = .int .i64 (Lev.bnd ⟨N, s.el⟩))
      (by
        rintro e n' h' ⟨H, g3, g10, g11, g12⟩
        rw [List.take_length] at g3
        unfold l53_0
        simp (disch := first | assumption | omega | (simp (disch := first | assumption | omega) only [sB, Nat.reduceAdd, Nat.reduceLT, Nat.reduceLeDiff, Nat.reduceEqDiff, Nat.reduceMul, ↓reduceIte]; done) | fail) only [sA, ↓reduceIte, Nat.reduceLT, Nat.reduceEqDiff, Nat.reduceAdd, Nat.reduceLeDiff, g11, g12]
        exact ⟨_, _, _, _, rfl, by simp, rfl, H.mono (by omega), by simp (disch := first | assumption | omega | (simp (disch := first | assumption | omega) only [sB, Nat.reduceAdd, Nat.reduceLT, Nat.reduceLeDiff, Nat.reduceEqDiff, Nat.reduceMul, ↓reduceIte]; done) | fail) only [sA, ↓reduceIte, Nat.reduceLT, Nat.reduceEqDiff, Nat.reduceAdd, Nat.reduceLeDiff, g3]⟩)
      (by
        rintro i e n' h' hi ⟨H, g3, g10, g11, g12⟩
        have hn := H.le
        have hp := hV s.el[i] (List.getElem_mem hi)
        have hsn := bnd_snoc N (s.el.take i) s.el[i]
        rw [← take_snoc hi] at hsn
        generalize hW : s.el[i] = W at hp hsn
        obtain ⟨va, vb⟩ := W
        replace hsn : Lev.bnd ⟨N, s.el.take (i + 1)⟩ = max (Lev.bnd ⟨N, s.el.take i⟩) (va + 1) := hsn
        replace hp : (0 ≤ va ∧ va ≤ 1000) ∧ 0 ≤ vb ∧ vb ≤ 1000 := hp
        generalize Lev.bnd ⟨N, s.el.take i⟩ = A at g3 hsn
        unfold l53_0
        simp (disch := first | assumption | omega | (simp (disch := first | assumption | omega) only [sB, Nat.reduceAdd, Nat.reduceLT, Nat.reduceLeDiff, Nat.reduceEqDiff, Nat.reduceMul, ↓reduceIte]; done) | fail) only [sA, ↓reduceIte, Nat.reduceLT, Nat.reduceEqDiff, Nat.reduceAdd, Nat.reduceLeDiff, g3, g10, g11, g12, hW, encV]
        exact ⟨_, _, _, _, rfl, .inl ⟨rfl, (H.box (r := n' + 3) (m := n' + 4) (by omega) (by omega) rfl).mono (by omega), by rw [hsn]; simp (disch := first | assumption | omega | (simp (disch := first | assumption | omega) only [sB, Nat.reduceAdd, Nat.reduceLT, Nat.reduceLeDiff, Nat.reduceEqDiff, Nat.reduceMul, ↓reduceIte]; done) | fail) only [sA, ↓reduceIte, Nat.reduceLT, Nat.reduceEqDiff, Nat.reduceAdd, Nat.reduceLeDiff], by simp (disch := first | assumption | omega | (simp (disch := first | assumption | omega) only [sB, Nat.reduceAdd, Nat.reduceLT, Nat.reduceLeDiff, Nat.reduceEqDiff, Nat.reduceMul, ↓reduceIte]; done) | fail) only [sA, ↓reduceIte, Nat.reduceLT, Nat.reduceEqDiff, Nat.reduceAdd, Nat.reduceLeDiff, g10], by simp (disch := first | assumption | omega | (simp (disch := first | assumption | omega) only [sB, Nat.reduceAdd, Nat.reduceLT, Nat.reduceLeDiff, Nat.reduceEqDiff, Nat.reduceMul, ↓reduceIte]; done) | fail) only [sA, ↓reduceIte, Nat.reduceLT, Nat.reduceEqDiff, Nat.reduceAdd, Nat.reduceLeDiff, g11], by simp (disch := first | assumption | omega | (simp (disch := first | assumption | omega) only [sB, Nat.reduceAdd, Nat.reduceLT, Nat.reduceLeDiff, Nat.reduceEqDiff, Nat.reduceMul, ↓reduceIte]; done) | fail) only [sA, ↓reduceIte, Nat.reduceLT, Nat.reduceEqDiff, Nat.reduceAdd, Nat.reduceLeDiff]⟩⟩)
      ⟨H0.mono (by omega), by simp (disch := first | assumption | omega | (simp (disch := first | assumption | omega) only [sB, Nat.reduceAdd, Nat.reduceLT, Nat.reduceLeDiff, Nat.reduceEqDiff, Nat.reduceMul, ↓reduceIte]; done) | fail) only [sA, ↓reduceIte, Nat.reduceLT, Nat.reduceEqDiff, Nat.reduceAdd, Nat.reduceLeDiff]; rfl, by simp (disch := first | assumption | omega | (simp (disch := first | assumption | omega) only [sB, Nat.reduceAdd, Nat.reduceLT, Nat.reduceLeDiff, Nat.reduceEqDiff, Nat.reduceMul, ↓reduceIte]; done) | fail) only [sA, ↓reduceIte, Nat.reduceLT, Nat.reduceEqDiff, Nat.reduceAdd, Nat.reduceLeDiff], by simp (disch := first | assumption | omega | (simp (disch := first | assumption | omega) only [sB, Nat.reduceAdd, Nat.reduceLT, Nat.reduceLeDiff, Nat.reduceEqDiff, Nat.reduceMul, ↓reduceIte]; done) | fail) only [sA, ↓reduceIte, Nat.reduceLT, Nat.reduceEqDiff, Nat.reduceAdd, Nat.reduceLeDiff], by simp (disch := first | assumption | omega | (simp (disch := first | assumption | omega) only [sB, Nat.reduceAdd, Nat.reduceLT, Nat.reduceLeDiff, Nat.reduceEqDiff, Nat.reduceMul, ↓reduceIte]; done) | fail) only [sA, ↓reduceIte, Nat.reduceLT, Nat.reduceEqDiff, Nat.reduceAdd, Nat.reduceLeDiff]⟩
    simp (disch := first | assumption | omega | (simp (disch := first | assumption | omega) only [sB, Nat.reduceAdd, Nat.reduceLT, Nat.reduceLeDiff, Nat.reduceEqDiff, Nat.reduceMul, ↓reduceIte]; done) | fail) only [sA, ↓reduceIte, Nat.reduceLT, Nat.reduceEqDiff, Nat.reduceAdd, Nat.reduceLeDiff, g3, finish_flat (d := .int .i64 (Lev.bnd ⟨N, s.el⟩)) rfl (H2.mono (show n2 ≤ n2 + 2 by omega))]
theorem lvBound (N : Int) (s : Sl LV) (_ : s.el.length < 1000000000000) : callFn (LX (cFk kS Go.Proofs.Try.prog)) n h [(D.agg [.int .i64 (N), slD 2 encV (s)])] (cFk kS Go.Proofs.Try.prog 53) = .ok (.int .i64 (Lev.bound ⟨N, s.el⟩)) n h := lvBoundA n h hg N s

set_option maxHeartbeats 4000000 in
theorem refBound (N : Int) (s : Sl LV) (hs : s.el.length < 1000000000000) : callFn (LX (cFk kS Go.Proofs.Try.prog)) n h [(D.agg [.int .i64 (N), slD 2 encV (s)])] (cFk kS Go.Proofs.Try.prog 54) = .ok (.int .i64 (Lev.bound ⟨N, s.el⟩)) n h := by
  have hgn := hg n (Nat.le_refl _)
  have H0 : Hp n h (n + 1) ((n, (Ob.row 2 [.agg [.int .i64 (N), slD 2 encV (s)]])) :: h) := (Hp.start hg).box (r := n) (m := n + 1) (Nat.le_refl _) (by omega) (flatL ⟨N, s⟩)
  have c0 : ∀ m, n + 1 ≤ m → callFn (LX (cFk kS Go.Proofs.Try.prog)) m ((n, (Ob.row 2 [.agg [.int .i64 (N), slD 2 encV (s)]])) :: h) [(D.agg [.int .i64 (N), slD 2 encV (s)])] (cFk kS Go.Proofs.Try.prog 70) = .ok (.bool (Lev.right ⟨N, s.el⟩)) m ((n, (Ob.row 2 [.agg [.int .i64 (N), slD 2 encV (s)]])) :: h) := fun m hm => refRight m _ (H0.good' hm) N _ _ _ (svV s) hs
  unfold Lev.bound
  cases hb : Lev.right ⟨N, s.el⟩ with
  | false =>
    rw [hb] at c0
    rw [if_neg (by decide)]
    rw [f54_eq]; unfold c54; rw [callFn_eq (by rfl)]
    simp (disch := first | assumption | omega | (simp (disch := first | assumption | omega) only [sB, Nat.reduceAdd, Nat.reduceLT, Nat.reduceLeDiff, Nat.reduceEqDiff, Nat.reduceMul, ↓reduceIte]; done) | fail) only [sA, ↓reduceIte, Nat.reduceLT, Nat.reduceEqDiff, Nat.reduceAdd, Nat.reduceLeDiff, c0]
  | true =>
    rw [hb] at c0
    rw [if_pos rfl]
    obtain ⟨hN, h64, hV⟩ := right_iff.1 hb
    replace h64 : s.el.length ≤ 64 := h64
    replace hV : ∀ p, p ∈ s.el → (0 ≤ p.1 ∧ p.1 ≤ 1000) ∧ 0 ≤ p.2 ∧ p.2 ≤ 1000 := hV
    rw [f54_eq]; unfold c54; rw [callFn_eq (by rfl)]
    simp (disch := first | assumption | omega | (simp (disch := first | assumption | omega) only [sB, Nat.reduceAdd, Nat.reduceLT, Nat.reduceLeDiff, Nat.reduceEqDiff, Nat.reduceMul, ↓reduceIte]; done) | fail) only [sA, ↓reduceIte, Nat.reduceLT, Nat.reduceEqDiff, Nat.reduceAdd, Nat.reduceLeDiff, c0]
    generalize hr : LX (cFk kS Go.Proofs.Try.prog) (.loop l54_0) _ _ _ = r
    obtain ⟨x, e2, n2, h2, rfl, rfl, H2, g4⟩ := loop_up hr s.el.length
      (fun i e n' h' => Hp n h n' h' ∧ n + 1 ≤ n' ∧ getO h' n = (Ob.row 2 [.agg [.int .i64 (N), slD 2 encV (s)]]) ∧ get (po 1) e = .ptr n 0 0 ∧ get (po 4) e = .int .i64 (Lev.bnd ⟨N, s.el.take i⟩) ∧ get (po 5) e = .int .i64 (i : Nat))
      (fun x e n' h' => x = .exit 0 ∧ Hp n h n' h' ∧ get (po 4) e = .int .i64 (Lev.bnd ⟨N, s.el⟩))
      (by
        rintro e n' h' ⟨H, p1, b0, g1, g4, g5⟩
        rw [List.take_length] at g4
        unfold l54_0
        simp (disch := first | assumption | omega | (simp (disch := first | assumption | omega) only [sB, Nat.reduceAdd, Nat.reduceLT, Nat.reduceLeDiff, Nat.reduceEqDiff, Nat.reduceMul, ↓reduceIte]; done) | fail) only [sA, ↓reduceIte, Nat.reduceLT, Nat.reduceEqDiff, Nat.reduceAdd, Nat.reduceLeDiff, g1, g5, b0]
        exact ⟨_, _, _, _, rfl, by simp, rfl, H.mono (by omega), by simp (disch := first | assumption | omega | (simp (disch := first | assumption | omega) only [sB, Nat.reduceAdd, Nat.reduceLT, Nat.reduceLeDiff, Nat.reduceEqDiff, Nat.reduceMul, ↓reduceIte]; done) | fail) only [sA, ↓reduceIte, Nat.reduceLT, Nat.reduceEqDiff, Nat.reduceAdd, Nat.reduceLeDiff, g4]⟩)
      (by
        rintro i e n' h' hi ⟨H, p1, b0, g1, g4, g5⟩
        have hn := H.le
        have hp := hV s.el[i] (List.getElem_mem hi)
        have hsn := bnd_snoc N (s.el.take i) s.el[i]
        rw [← take_snoc hi] at hsn
        generalize hW : s.el[i] = W at hp hsn
        obtain ⟨va, vb⟩ := W
        replace hsn : Lev.bnd ⟨N, s.el.take (i + 1)⟩ = max (Lev.bnd ⟨N, s.el.take i⟩) (va + 1) := hsn
        replace hp : (0 ≤ va ∧ va ≤ 1000) ∧ 0 ≤ vb ∧ vb ≤ 1000 := hp
        generalize Lev.bnd ⟨N, s.el.take i⟩ = A at g4 hsn
        unfold l54_0
        by_cases a1 : va ≥ A
        · rw [show max A (va + 1) = va + 1 by omega] at hsn
          simp (disch := first | assumption | omega | (simp (disch := first | assumption | omega) only [sB, Nat.reduceAdd, Nat.reduceLT, Nat.reduceLeDiff, Nat.reduceEqDiff, Nat.reduceMul, ↓reduceIte]; done) | fail) only [sA, ↓reduceIte, Nat.reduceLT, Nat.reduceEqDiff, Nat.reduceAdd, Nat.reduceLeDiff, g1, g4, g5, b0, hW, encV, a1]
          exact ⟨_, _, _, _, rfl, .inl ⟨rfl, H.mono (by omega), by omega, b0, by simp (disch := first | assumption | omega | (simp (disch := first | assumption | omega) only [sB, Nat.reduceAdd, Nat.reduceLT, Nat.reduceLeDiff, Nat.reduceEqDiff, Nat.reduceMul, ↓reduceIte]; done) | fail) only [sA, ↓reduceIte, Nat.reduceLT, Nat.reduceEqDiff, Nat.reduceAdd, Nat.reduceLeDiff, g1], by rw [hsn]; simp (disch := first | assumption | omega | (simp (disch := first | assumption | omega) only [sB, Nat.reduceAdd, Nat.reduceLT, Nat.reduceLeDiff, Nat.reduceEqDiff, Nat.reduceMul, ↓reduceIte]; done) | fail) only [sA, ↓reduceIte, Nat.reduceLT, Nat.reduceEqDiff, Nat.reduceAdd, Nat.reduceLeDiff], by simp (disch := first | assumption | omega | (simp (disch := first | assumption | omega) only [sB, Nat.reduceAdd, Nat.reduceLT, Nat.reduceLeDiff, Nat.reduceEqDiff, Nat.reduceMul, ↓reduceIte]; done) | fail) only [sA, ↓reduceIte, Nat.reduceLT, Nat.reduceEqDiff, Nat.reduceAdd, Nat.reduceLeDiff]⟩⟩
        · rw [show max A (va + 1) = A by omega] at hsn
          simp (disch := first | assumption | omega | (simp (disch := first | assumption | omega) only [sB, Nat.reduceAdd, Nat.reduceLT, Nat.reduceLeDiff, Nat.reduceEqDiff, Nat.reduceMul, ↓reduceIte]; done) | fail) only [sA, ↓reduceIte, Nat.reduceLT, Nat.reduceEqDiff, Nat.reduceAdd, Nat.reduceLeDiff, g1, g4, g5, b0, hW, encV, a1]
          exact ⟨_, _, _, _, rfl, .inl ⟨rfl, H.mono (by omega), by omega, b0, by simp (disch := first | assumption | omega | (simp (disch := first | assumption | omega) only [sB, Nat.reduceAdd, Nat.reduceLT, Nat.reduceLeDiff, Nat.reduceEqDiff, Nat.reduceMul, ↓reduceIte]; done) | fail) only [sA, ↓reduceIte, Nat.reduceLT, Nat.reduceEqDiff, Nat.reduceAdd, Nat.reduceLeDiff, g1], by rw [hsn]; simp (disch := first | assumption | omega | (simp (disch := first | assumption | omega) only [sB, Nat.reduceAdd, Nat.reduceLT, Nat.reduceLeDiff, Nat.reduceEqDiff, Nat.reduceMul, ↓reduceIte]; done) | fail) only [sA, ↓reduceIte, Nat.reduceLT, Nat.reduceEqDiff, Nat.reduceAdd, Nat.reduceLeDiff, g4], by simp (disch := first | assumption | omega | (simp (disch := first | assumption | omega) only [sB, Nat.reduceAdd, Nat.reduceLT, Nat.reduceLeDiff, Nat.reduceEqDiff, Nat.reduceMul, ↓reduceIte]; done) | fail) only [sA, ↓reduceIte, Nat.reduceLT, Nat.reduceEqDiff, Nat.reduceAdd, Nat.reduceLeDiff]⟩⟩)
      ⟨H0.mono (by omega), by omega, by simp (disch := first | assumption | omega | (simp (disch := first | assumption | omega) only [sB, Nat.reduceAdd, Nat.reduceLT, Nat.reduceLeDiff, Nat.reduceEqDiff, Nat.reduceMul, ↓reduceIte]; done) | fail) only [sA, ↓reduceIte, Nat.reduceLT, Nat.reduceEqDiff, Nat.reduceAdd, Nat.reduceLeDiff], by simp (disch := first | assumption | omega | (simp (disch := first | assumption | omega) only [sB, Nat.reduceAdd, Nat.reduceLT, Nat.reduceLeDiff, Nat.reduceEqDiff, Nat.reduceMul, ↓reduceIte]; done) | fail) only [sA, ↓reduceIte, Nat.reduceLT, Nat.reduceEqDiff, Nat.reduceAdd, Nat.reduceLeDiff], by simp (disch := first | assumption | omega | (simp (disch := first | assumption | omega) only [sB, Nat.reduceAdd, Nat.reduceLT, Nat.reduceLeDiff, Nat.reduceEqDiff, Nat.reduceMul, ↓reduceIte]; done) | fail) only [sA, ↓reduceIte, Nat.reduceLT, Nat.reduceEqDiff, Nat.reduceAdd, Nat.reduceLeDiff]; rfl, by simp (disch := first | assumption | omega | (simp (disch := first | assumption | omega) only [sB, Nat.reduceAdd, Nat.reduceLT, Nat.reduceLeDiff, Nat.reduceEqDiff, Nat.reduceMul, ↓reduceIte]; done) | fail) only [sA, ↓reduceIte, Nat.reduceLT, Nat.reduceEqDiff, Nat.reduceAdd, Nat.reduceLeDiff]⟩
    simp (disch := first | assumption | omega | (simp (disch := first | assumption | omega) only [sB, Nat.reduceAdd, Nat.reduceLT, Nat.reduceLeDiff, Nat.reduceEqDiff, Nat.reduceMul, ↓reduceIte]; done) | fail) only [sA, ↓reduceIte, Nat.reduceLT, Nat.reduceEqDiff, Nat.reduceAdd, Nat.reduceLeDiff, g4, finish_flat (d := .int .i64 (Lev.bnd ⟨N, s.el⟩)) rfl (H2.mono (show n2 ≤ n2 + 2 by omega))]

theorem lawMax2 (a b : Int) : callFn (LX (cFk kS Go.Proofs.Try.prog)) n h [.int .i64 a, .int .i64 b] (cFk kS Go.Proofs.Try.prog 55) = .ok (.int .i64 (max a b)) n h := by
  have hgn := hg n (Nat.le_refl _)
  rw [f55_eq]; unfold c55; rw [callFn_eq (by rfl)]
  by_cases h1 : a < b
  · rw [show max a b = b by omega]
    simp (disch := first | assumption | omega | (simp (disch := first | assumption | omega) only [sB, Nat.reduceAdd, Nat.reduceLT, Nat.reduceLeDiff, Nat.reduceEqDiff, Nat.reduceMul, ↓reduceIte]; done) | fail) only [sA, ↓reduceIte, Nat.reduceLT, Nat.reduceEqDiff, Nat.reduceAdd, Nat.reduceLeDiff, h1]
  · rw [show max a b = a by omega]
    simp (disch := first | assumption | omega | (simp (disch := first | assumption | omega) only [sB, Nat.reduceAdd, Nat.reduceLT, Nat.reduceLeDiff, Nat.reduceEqDiff, Nat.reduceMul, ↓reduceIte]; done) | fail) only [sA, ↓reduceIte, Nat.reduceLT, Nat.reduceEqDiff, Nat.reduceAdd, Nat.reduceLeDiff, h1]
end
end Go.Proofs.Ytjagmfgjlfkmgaa
