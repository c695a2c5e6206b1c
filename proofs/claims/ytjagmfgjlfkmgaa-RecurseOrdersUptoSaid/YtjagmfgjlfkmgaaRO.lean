/- Order: the program's answer. No condition. -/
import Derived.Test.YtjagmfgjlfkmgaaRT
import Derived.Test.YtjagmfgjlfkmgaaA41
set_option linter.unusedSimpArgs false
set_option linter.unusedVariables false
namespace Go.Proofs.Ytjagmfgjlfkmgaa
open Go

theorem at_eq (c : Cal) (k : Nat) (z : Int) : (atC c k == z) = decide (atC c k = z) := by rw [Bool.eq_iff_iff]; simp
theorem at_neq (c : Cal) (k : Nat) (z : Int) : (!(atC c k == z)) = decide (¬ atC c k = z) := by rw [at_eq]; simp
theorem at_cases (c : Cal) (k : Nat) : atC c k = 0 ∨ atC c k = 1 ∨ atC c k = 2 := by
  unfold atC
  split
  · split
    · exact .inl rfl
    · split
      · exact .inr (.inl rfl)
      · split
        · exact .inr (.inr rfl)
        · exact .inl rfl
  · exact .inl rfl
def goodK (cs : List Cal) (out : List Nat) (k : Nat) : Bool := !(out.contains k) && (cs.any (fun c => atC c k == 2) && cs.all (fun c => !(atC c k == 0)))
def nextK (cs : List Cal) (out : List Nat) : Nat → Nat → Option Nat
  | _, 0 => none
  | k, f + 1 => if goodK cs out k then some k else nextK cs out (k + 1) f
def ordL (A : Nat) : Nat → List Cal → List Nat → Option (List Nat)
  | 0, _, out => some out
  | f + 1, cs, out => if cs.isEmpty then some out else match nextK cs out 0 A with
    | none => none
    | some k => ordL A f (cs.filter fun c => !(atC c k == 2)) (out ++ [k])
def encK (k : Nat) : D := .int .i64 (k : Int)
def ordR : Option (List Nat) → D
  | some l => .tup [slD 1 encK (Sl.app l), .bool true]
  | none => .tup [.nils, .bool false]
def ordD (cs : List Cal) (a : Int) : D := if 1 ≤ a ∧ a ≤ 100 then ordR (ordL a.toNat cs.length cs []) else if cs.isEmpty then .tup [.nils, .bool true] else .tup [.nils, .bool false]
theorem lowK (m : Nat) (k : Nat) : low m (encK k) := low_flat rfl
theorem elemK : ElemOk 1 encK := ⟨fun _ => rfl, fun _ => rfl⟩
theorem next_good (cs : List Cal) (out : List Nat) : ∀ (f k q : Nat), nextK cs out k f = some q → goodK cs out q = true ∧ k ≤ q ∧ q < k + f
  | 0, _, _, h => by cases h
  | f + 1, k, q, h => by
    unfold nextK at h
    split at h
    · rename_i hg; cases h; exact ⟨hg, Nat.le_refl _, by omega⟩
    · have := next_good cs out f (k + 1) q h; exact ⟨this.1, by omega, by omega⟩
theorem good_some {cs : List Cal} {out : List Nat} {k : Nat} (h : goodK cs out k = true) : ¬ k ∈ out ∧ (cs.filter fun c => !(atC c k == 2)).length < cs.length := by
  unfold goodK at h
  rw [Bool.and_eq_true, Bool.and_eq_true] at h
  refine ⟨fun hk => ?_, ?_⟩
  · have := List.contains_iff_mem.2 hk
    rw [this] at h; exact absurd h.1 (by decide)
  · obtain ⟨c, hc, h2⟩ := List.any_eq_true.1 h.2.1
    rcases Nat.lt_or_ge (cs.filter fun c => !(atC c k == 2)).length cs.length with h3 | h3
    · exact h3
    · have := List.length_filter_eq_length_iff.1 (Nat.le_antisymm (List.length_filter_le _ _) h3) c hc
      rw [h2] at this; exact absurd this (by decide)
theorem sub_mp {r : Nat} : sub false 1 0 (.mp r) = .mp r := eqOf rfl
theorem boxD_nilm {n : Nat} {h : Hps} : boxD n h 1 .nilm = .ok (.ptr n 0 0) n ((n, .row 1 [.nilm]) :: h) := eqOf rfl
theorem one_nilm : one .nilm = true := eqOf rfl
theorem one_mp {r : Nat} : one (.mp r) = true := eqOf rfl
/-- what is taken, as the program's map -/
def takM (out : List Nat) : List (D × D) := (out.map fun (k : Nat) => ((k : Int), D.int .i64 1)).map fun p => (.int .i64 p.1, p.2)
theorem find_tak (out : List Nat) (k : Nat) : findK (.int .i64) (.int .i64 (k : Int)) (takM out) = if out.contains k then .some (.int .i64 1) else .none := by
  unfold takM
  rw [find_app]
  induction out with
  | nil => rfl
  | cons a t ih =>
    rw [List.map_cons, List.find?_cons, List.contains_cons]
    by_cases h : a = k
    · subst h
      rw [show ((a : Int) == (a : Int)) = true from beq_self_eq_true _, show (a == a) = true from beq_self_eq_true _]; rfl
    · rw [show ((a : Int) == (k : Int)) = false by rw [beq_eq_false_iff_ne]; omega, show (k == a) = false by rw [beq_eq_false_iff_ne]; omega, Bool.false_or, ← ih]
theorem put_tak {out : List Nat} {k : Nat} (h : ¬ k ∈ out) : putK (.int .i64) (.int .i64 (k : Int)) (.int .i64 1) (takM out) = takM (out ++ [k]) := by
  unfold takM
  rw [put_app]
  · simp only [List.map_append, List.map_cons, List.map_nil]
  · intro p hp e
    obtain ⟨q, hq, rfl⟩ := List.mem_map.1 hp
    have e : (q : Int) = (k : Int) := e
    have e2 : q = k := by omega
    exact h (e2 ▸ hq)
theorem low_tak (out : List Nat) (m : Nat) : obR1 m (.map (takM out)) = false := by
  unfold takM
  induction out with
  | nil => rfl
  | cons a t ih =>
    show Bool.or (hasR m 20 (.int .i64 (a : Int))) (Bool.or (hasR m 20 (.int .i64 1)) (obR1 m (.map _))) = false
    rw [ih]; rfl
theorem look_tak {n : Nat} {h : Hps} {rm : Nat} {out : List Nat} {k : Nat} (hm : getO h rm = .map (takM out)) : lookD n h (.int .i64) (.int .i64 0) false (.int .i64 (k : Int)) (.mp rm) = .ok (.int .i64 (if out.contains k then 1 else 0)) n h := by
  show lookR n h (.int .i64) (.int .i64 0) false (.int .i64 (k : Int)) (getO h rm) = _
  rw [hm]
  show lookF n h (.int .i64 0) false (findK (.int .i64) (.int .i64 (k : Int)) (takM out)) = _
  rw [find_tak]
  cases out.contains k <;> rfl
theorem mupd_tak {n : Nat} {h : Hps} {rm : Nat} {out : List Nat} {k : Nat} (hm : getO h rm = .map (takM out)) (hk : ¬ k ∈ out) : mupdD n h (.int .i64) (.int .i64 (k : Int)) (.int .i64 1) (.mp rm) = .ok .junk n (setO h rm (.map (takM (out ++ [k])))) := by
  show mupdR n h (.int .i64) rm (.int .i64 (k : Int)) (.int .i64 1) (getO h rm) = _
  rw [hm]
  show mupdF n h rm (putK (.int .i64) (.int .i64 (k : Int)) (.int .i64 1) (takM out)) (findK (.int .i64) (.int .i64 (k : Int)) (takM out)) = _
  rw [find_tak, put_tak hk]
  cases out.contains k <;> rfl

section
variable (c : Cal) (k r n : Nat) (h : Hps) (hs : sizePs c.frm.el < 1000000000) (hg : ∀ k, n ≤ k → GoodAt k h) (hr : getO h r = .row 1 [.int .i64 (k : Int)])
include hs hg hr
theorem ord11 : callFn (LX (cF Go.Proofs.Try.prog)) n h [.agg [slD 3 encP c.frm, slD 1 encI c.args], .ptr r 0 0] ((cF Go.Proofs.Try.prog) 63) = .ok (.bool (atC c k == 2)) n h := by
  have hgn := hg n (Nat.le_refl _)
  have hrn : r < n := getO_low hgn (by rw [hr]; exact fun h => by cases h)
  have c1 : ∀ m, n + 1 ≤ m → callFn (LX (cF Go.Proofs.Try.prog)) m ((n, .row 2 [.agg [slD 3 encP c.frm, slD 1 encI c.args]]) :: h) [.agg [slD 3 encP c.frm, slD 1 encI c.args], .int .i64 (k : Int)] (cF Go.Proofs.Try.prog 59) =
      .ok (.int .i64 (atC c k)) m ((n, .row 2 [.agg [slD 3 encP c.frm, slD 1 encI c.args]]) :: h) := fun m hm => recAt c k _ _ hs (fun q hq => good_cons.2 ⟨by omega, lowO_one (lowC q c), hg q (by omega)⟩)
  rw [f63_eq, at_eq]
  unfold c63
  rw [callFn_eq (by rfl)]
  simp (disch := first | assumption | omega | (simp (disch := first | assumption | omega) only [sB, Nat.reduceAdd, Nat.reduceLT, Nat.reduceLeDiff, Nat.reduceEqDiff, Nat.reduceMul, ↓reduceIte]; done) | fail) only [sA, ↓reduceIte, Nat.reduceLT, Nat.reduceEqDiff, Nat.reduceAdd, Nat.reduceLeDiff, c1, hr]
theorem ord12 : callFn (LX (cF Go.Proofs.Try.prog)) n h [.agg [slD 3 encP c.frm, slD 1 encI c.args], .ptr r 0 0] ((cF Go.Proofs.Try.prog) 64) = .ok (.bool (atC c k == 0)) n h := by
  have hgn := hg n (Nat.le_refl _)
  have hrn : r < n := getO_low hgn (by rw [hr]; exact fun h => by cases h)
  have c1 : ∀ m, n + 1 ≤ m → callFn (LX (cF Go.Proofs.Try.prog)) m ((n, .row 2 [.agg [slD 3 encP c.frm, slD 1 encI c.args]]) :: h) [.agg [slD 3 encP c.frm, slD 1 encI c.args], .int .i64 (k : Int)] (cF Go.Proofs.Try.prog 59) =
      .ok (.int .i64 (atC c k)) m ((n, .row 2 [.agg [slD 3 encP c.frm, slD 1 encI c.args]]) :: h) := fun m hm => recAt c k _ _ hs (fun q hq => good_cons.2 ⟨by omega, lowO_one (lowC q c), hg q (by omega)⟩)
  rw [f64_eq, at_eq]
  unfold c64
  rw [callFn_eq (by rfl)]
  simp (disch := first | assumption | omega | (simp (disch := first | assumption | omega) only [sB, Nat.reduceAdd, Nat.reduceLT, Nat.reduceLeDiff, Nat.reduceEqDiff, Nat.reduceMul, ↓reduceIte]; done) | fail) only [sA, ↓reduceIte, Nat.reduceLT, Nat.reduceEqDiff, Nat.reduceAdd, Nat.reduceLeDiff, c1, hr]
theorem ord2 : callFn (LX (cF Go.Proofs.Try.prog)) n h [.agg [slD 3 encP c.frm, slD 1 encI c.args], .ptr r 0 0] ((cF Go.Proofs.Try.prog) 65) = .ok (.bool (!(atC c k == 2))) n h := by
  have hgn := hg n (Nat.le_refl _)
  have hrn : r < n := getO_low hgn (by rw [hr]; exact fun h => by cases h)
  have c1 : ∀ m, n + 1 ≤ m → callFn (LX (cF Go.Proofs.Try.prog)) m ((n, .row 2 [.agg [slD 3 encP c.frm, slD 1 encI c.args]]) :: h) [.agg [slD 3 encP c.frm, slD 1 encI c.args], .int .i64 (k : Int)] (cF Go.Proofs.Try.prog 59) =
      .ok (.int .i64 (atC c k)) m ((n, .row 2 [.agg [slD 3 encP c.frm, slD 1 encI c.args]]) :: h) := fun m hm => recAt c k _ _ hs (fun q hq => good_cons.2 ⟨by omega, lowO_one (lowC q c), hg q (by omega)⟩)
  rw [f65_eq, at_eq]
  unfold c65
  rw [callFn_eq (by rfl)]
  simp (disch := first | assumption | omega | (simp (disch := first | assumption | omega) only [sB, Nat.reduceAdd, Nat.reduceLT, Nat.reduceLeDiff, Nat.reduceEqDiff, Nat.reduceMul, ↓reduceIte]; done) | fail) only [sA, ↓reduceIte, Nat.reduceLT, Nat.reduceEqDiff, Nat.reduceAdd, Nat.reduceLeDiff, c1, hr]
end

set_option maxHeartbeats 4000000 in
theorem ord1 (s : Sl Cal) (out : List Nat) (k r2 r7 rm n : Nat) (h : Hps) (hl : s.el.length < 1000000000) (hf : Fewer 1000000000 s.el) (hg : ∀ k, n ≤ k → GoodAt k h) (h2 : getO h r2 = .row 1 [slD 2 encC s]) (h7 : getO h r7 = .row 1 [.mp rm]) (hm : getO h rm = .map (takM out)) :
    callFn (LX (cF Go.Proofs.Try.prog)) n h [.int .i64 (k : Int), .ptr r2 0 0, .ptr r7 0 0] ((cF Go.Proofs.Try.prog) 62) = .ok (.bool (goodK s.el out k)) n h := by
  have hgn := hg n (Nat.le_refl _)
  have low : ∀ r, getO h r ≠ .none → r < n := fun r hr => getO_low hgn hr
  have l2 := low r2 (by rw [h2]; exact fun h => by cases h)
  have l7 := low r7 (by rw [h7]; exact fun h => by cases h)
  have lm := low rm (by rw [hm]; exact fun h => by cases h)
  have H1 : Hp n h (n + 1) ((n, .row 1 [.int .i64 (k : Int)]) :: h) := (Hp.start hg).box (by omega) (by omega) rfl
  have k1 : ∀ m, n + 1 ≤ m → callFn (LX (cF Go.Proofs.Try.prog)) m ((n, .row 1 [.int .i64 (k : Int)]) :: h) [slD 2 encC s, .fn 63 [] [.ptr n 0 0]] ((cF Go.Proofs.Try.prog) 57) = .ok (slD 2 encC (Sl.app (s.el.filter fun c => atC c k == 2))) m ((n, .row 1 [.int .i64 (k : Int)]) :: h) :=
    fun m hm => recKept (fun c => atC c k == 2) _ s m _ hl (H1.good' hm) (fun c hc m' h'' hm' H' => by
      rw [callX_fn]
      exact ord11 c k n m' h'' (hf c hc) H'.good ((H'.get (by omega)).trans getO_hd))
  have k2 : ∀ m, n + 1 ≤ m → callFn (LX (cF Go.Proofs.Try.prog)) m ((n, .row 1 [.int .i64 (k : Int)]) :: h) [slD 2 encC s, .fn 64 [] [.ptr n 0 0]] ((cF Go.Proofs.Try.prog) 57) = .ok (slD 2 encC (Sl.app (s.el.filter fun c => atC c k == 0))) m ((n, .row 1 [.int .i64 (k : Int)]) :: h) :=
    fun m hm => recKept (fun c => atC c k == 0) _ s m _ hl (H1.good' hm) (fun c hc m' h'' hm' H' => by
      rw [callX_fn]
      exact ord12 c k n m' h'' (hf c hc) H'.good ((H'.get (by omega)).trans getO_hd))
  have e1 : s.el.any (fun c => atC c k == 2) = decide ((s.el.filter fun c => atC c k == 2).length > 0) := by
    rw [Bool.eq_iff_iff, List.any_eq_true, decide_eq_true_iff, gt_iff_lt, List.length_pos_iff_exists_mem]
    exact ⟨fun ⟨x, h1, h2⟩ => ⟨x, List.mem_filter.2 ⟨h1, h2⟩⟩, fun ⟨x, h1⟩ => ⟨x, List.mem_filter.1 h1⟩⟩
  have e2 : s.el.all (fun c => !(atC c k == 0)) = decide ((s.el.filter fun c => atC c k == 0).length = 0) := by
    rw [Bool.eq_iff_iff, List.all_eq_true, decide_eq_true_iff, List.length_eq_zero_iff, List.filter_eq_nil_iff]
    exact ⟨fun h x hx => by have := h x hx; simpa using this, fun h x hx => by have := h x hx; simpa using this⟩
  have z1 := List.length_filter_le (fun c => atC c k == 2) s.el
  have z2 := List.length_filter_le (fun c => atC c k == 0) s.el
  unfold goodK
  rw [e1, e2]
  generalize (s.el.filter fun c => atC c k == 2) = F1 at k1 z1
  generalize (s.el.filter fun c => atC c k == 0) = F2 at k2 z2
  have lk : ∀ m, lookD m ((n, .row 1 [.int .i64 (k : Int)]) :: h) (.int .i64) (.int .i64 0) false (.int .i64 (k : Int)) (.mp rm) = .ok (.int .i64 (if out.contains k then 1 else 0)) m ((n, .row 1 [.int .i64 (k : Int)]) :: h) := fun m => look_tak (getO_keep hm (by omega))
  rw [f62_eq]; unfold c62; rw [callFn_eq (by rfl)]
  cases hc : out.contains k with
  | true =>
    simp only [hc, if_true] at lk
    simp (disch := first | assumption | omega | (simp (disch := first | assumption | omega) only [sB, Nat.reduceAdd, Nat.reduceLT, Nat.reduceLeDiff, Nat.reduceEqDiff, Nat.reduceMul, ↓reduceIte]; done) | fail) only [sA, ↓reduceIte, Nat.reduceLT, Nat.reduceEqDiff, Nat.reduceAdd, Nat.reduceLeDiff, k1, k2, h2, h7, lk, sub_mp, Bool.not_true, Bool.false_and]
  | false =>
    simp only [hc, Bool.false_eq_true, if_false] at lk
    by_cases y1 : F1.length > 0
    · by_cases y2 : F2.length = 0
      · simp (disch := first | assumption | omega | (simp (disch := first | assumption | omega) only [sB, Nat.reduceAdd, Nat.reduceLT, Nat.reduceLeDiff, Nat.reduceEqDiff, Nat.reduceMul, ↓reduceIte]; done) | fail) only [sA, ↓reduceIte, Nat.reduceLT, Nat.reduceEqDiff, Nat.reduceAdd, Nat.reduceLeDiff, k1, k2, h2, h7, lk, sub_mp, y1, y2, Bool.not_false, Bool.true_and, decide_true]
      · simp (disch := first | assumption | omega | (simp (disch := first | assumption | omega) only [sB, Nat.reduceAdd, Nat.reduceLT, Nat.reduceLeDiff, Nat.reduceEqDiff, Nat.reduceMul, ↓reduceIte]; done) | fail) only [sA, ↓reduceIte, Nat.reduceLT, Nat.reduceEqDiff, Nat.reduceAdd, Nat.reduceLeDiff, k1, k2, h2, h7, lk, sub_mp, y1, y2, Bool.not_false, Bool.true_and, decide_true, decide_false]
    · simp (disch := first | assumption | omega | (simp (disch := first | assumption | omega) only [sB, Nat.reduceAdd, Nat.reduceLT, Nat.reduceLeDiff, Nat.reduceEqDiff, Nat.reduceMul, ↓reduceIte]; done) | fail) only [sA, ↓reduceIte, Nat.reduceLT, Nat.reduceEqDiff, Nat.reduceAdd, Nat.reduceLeDiff, k1, k2, h2, h7, lk, sub_mp, y1, Bool.not_false, Bool.true_and, Bool.false_and, decide_false]

theorem Bld.via {α : Type} {enc : α → D} {k n1 q : Nat} {h h1 : Hps} {l : List α} {d : D} (hB : Bld k enc n1 l h d) (hk : ∀ r, r ≠ q → getO h1 r = getO h r) (ho : Go.Proofs.Ytjagmfgjlfkmgaa.off q d) : Bld k enc n1 l h1 d := by
  rcases hB with hB | ⟨r, q1, q2, rfl, q4⟩
  · exact .inl hB
  · exact .inr ⟨r, q1, q2, rfl, by rw [hk r (fun e => ho _ _ _ _ (by rw [e]))]; exact q4⟩
theorem next_step {cs : List Cal} {out : List Nat} {i A : Nat} (hi : i < A) : nextK cs out i (A - i) = if goodK cs out i then some i else nextK cs out (i + 1) (A - (i + 1)) := by
  obtain ⟨f, hf⟩ : ∃ f, A - i = f + 1 := ⟨A - i - 1, by omega⟩
  rw [hf, show A - (i + 1) = f by omega]; rfl

set_option maxHeartbeats 4000000 in
/-- the search for the next place -/
theorem ordIn (n : Nat) (h : Hps) (A : Nat) (hA : A ≤ 100) (s : Sl Cal) (out : List Nat) (hl : s.el.length < 1000000000) (hf : Fewer 1000000000 s.el) {r2 rm r7 r9 n0 : Nat} {e : Tr} {h' : Hps} {r : Re} (hr : LX (cF Go.Proofs.Try.prog) (.loop l23_0) e n0 h' = r) (H : Hp n h n0 h') (h9 : n ≤ r9)
    (q2 : getO h' r2 = .row 1 [slD 2 encC s]) (q7 : getO h' r7 = .row 1 [.mp rm]) (qm : getO h' rm = .map (takM out)) (q9 : getO h' r9 = .row 1 [.int .i64 0]) (z2 : r2 ≠ r9) (z7 : r7 ≠ r9) (zm : rm ≠ r9)
    (g1 : get (po 1) e = .int .i64 (A : Int)) (g8 : get (po 8) e = .fn 62 [] [.ptr r2 0 0, .ptr r7 0 0]) (g9 : get (po 9) e = .ptr r9 0 0) :
    ∃ x e' n' h'', r = .ok x e' n' h'' ∧ x = .exit 2 ∧ Hp n h n' h'' ∧ n0 ≤ n' ∧ (∀ q, q ≠ r9 → getO h'' q = getO h' q) ∧ (∃ i : Nat, getO h'' r9 = .row 1 [.int .i64 (i : Int)] ∧ ((i = A ∧ nextK s.el out 0 A = none) ∨ (i < A ∧ nextK s.el out 0 A = some i))) ∧
      get (po 1) e' = get (po 1) e ∧ get (po 2) e' = get (po 2) e ∧ get (po 6) e' = get (po 6) e ∧ get (po 7) e' = get (po 7) e ∧ get (po 8) e' = get (po 8) e ∧ get (po 9) e' = get (po 9) e := by
  refine loop_up hr A
    (fun i e' n' h'' => Hp n h n' h'' ∧ n0 ≤ n' ∧ (∀ q, q ≠ r9 → getO h'' q = getO h' q) ∧ getO h'' r9 = .row 1 [.int .i64 (i : Int)] ∧ nextK s.el out 0 A = nextK s.el out i (A - i) ∧
      get (po 1) e' = get (po 1) e ∧ get (po 2) e' = get (po 2) e ∧ get (po 6) e' = get (po 6) e ∧ get (po 7) e' = get (po 7) e ∧ get (po 8) e' = get (po 8) e ∧ get (po 9) e' = get (po 9) e)
    (fun x e' n' h'' => x = .exit 2 ∧ Hp n h n' h'' ∧ n0 ≤ n' ∧ (∀ q, q ≠ r9 → getO h'' q = getO h' q) ∧ (∃ i : Nat, getO h'' r9 = .row 1 [.int .i64 (i : Int)] ∧ ((i = A ∧ nextK s.el out 0 A = none) ∨ (i < A ∧ nextK s.el out 0 A = some i))) ∧
      get (po 1) e' = get (po 1) e ∧ get (po 2) e' = get (po 2) e ∧ get (po 6) e' = get (po 6) e ∧ get (po 7) e' = get (po 7) e ∧ get (po 8) e' = get (po 8) e ∧ get (po 9) e' = get (po 9) e)
    ?_ ?_ ⟨H, Nat.le_refl _, fun _ _ => rfl, q9, rfl, rfl, rfl, rfl, rfl, rfl, rfl⟩
  · rintro e' n' h'' ⟨H, p1, kp, q9, hN, k1, k2, k6, k7, k8, k9⟩
    rw [Nat.sub_self] at hN
    rw [g1] at k1
    rw [g9] at k9
    unfold l23_0
    simp (disch := first | assumption | omega | (simp (disch := first | assumption | omega) only [sB, Nat.reduceAdd, Nat.reduceLT, Nat.reduceLeDiff, Nat.reduceEqDiff, Nat.reduceMul, ↓reduceIte]; done) | fail) only [sA, ↓reduceIte, Nat.reduceLT, Nat.reduceEqDiff, Nat.reduceAdd, Nat.reduceLeDiff, k1, k9, q9]
    exact ⟨_, _, _, _, rfl, by simp, rfl, H.mono (by omega), by omega, kp, ⟨A, q9, .inl ⟨rfl, hN⟩⟩, by simp (disch := first | assumption | omega | (simp (disch := first | assumption | omega) only [sB, Nat.reduceAdd, Nat.reduceLT, Nat.reduceLeDiff, Nat.reduceEqDiff, Nat.reduceMul, ↓reduceIte]; done) | fail) only [sA, ↓reduceIte, Nat.reduceLT, Nat.reduceEqDiff, Nat.reduceAdd, Nat.reduceLeDiff, k1, g1], by simp (disch := first | assumption | omega | (simp (disch := first | assumption | omega) only [sB, Nat.reduceAdd, Nat.reduceLT, Nat.reduceLeDiff, Nat.reduceEqDiff, Nat.reduceMul, ↓reduceIte]; done) | fail) only [sA, ↓reduceIte, Nat.reduceLT, Nat.reduceEqDiff, Nat.reduceAdd, Nat.reduceLeDiff, k2], by simp (disch := first | assumption | omega | (simp (disch := first | assumption | omega) only [sB, Nat.reduceAdd, Nat.reduceLT, Nat.reduceLeDiff, Nat.reduceEqDiff, Nat.reduceMul, ↓reduceIte]; done) | fail) only [sA, ↓reduceIte, Nat.reduceLT, Nat.reduceEqDiff, Nat.reduceAdd, Nat.reduceLeDiff, k6], by simp (disch := first | assumption | omega | (simp (disch := first | assumption | omega) only [sB, Nat.reduceAdd, Nat.reduceLT, Nat.reduceLeDiff, Nat.reduceEqDiff, Nat.reduceMul, ↓reduceIte]; done) | fail) only [sA, ↓reduceIte, Nat.reduceLT, Nat.reduceEqDiff, Nat.reduceAdd, Nat.reduceLeDiff, k7], by simp (disch := first | assumption | omega | (simp (disch := first | assumption | omega) only [sB, Nat.reduceAdd, Nat.reduceLT, Nat.reduceLeDiff, Nat.reduceEqDiff, Nat.reduceMul, ↓reduceIte]; done) | fail) only [sA, ↓reduceIte, Nat.reduceLT, Nat.reduceEqDiff, Nat.reduceAdd, Nat.reduceLeDiff, k8], by simp (disch := first | assumption | omega | (simp (disch := first | assumption | omega) only [sB, Nat.reduceAdd, Nat.reduceLT, Nat.reduceLeDiff, Nat.reduceEqDiff, Nat.reduceMul, ↓reduceIte]; done) | fail) only [sA, ↓reduceIte, Nat.reduceLT, Nat.reduceEqDiff, Nat.reduceAdd, Nat.reduceLeDiff, k9, g9]⟩
  · rintro i e' n' h'' hi ⟨H, p1, kp, q9, hN, k1, k2, k6, k7, k8, k9⟩
    rw [g1] at k1
    rw [g9] at k9
    rw [g8] at k8
    rw [next_step hi] at hN
    have c1 : ∀ m, n' ≤ m → callFn (LX (cF Go.Proofs.Try.prog)) m h'' [.int .i64 (i : Int), .ptr r2 0 0, .ptr r7 0 0] ((cF Go.Proofs.Try.prog) 62) = .ok (.bool (goodK s.el out i)) m h'' := fun m hm => ord1 s out i r2 r7 rm m h'' hl hf (H.good' hm) ((kp _ z2).trans q2) ((kp _ z7).trans q7) ((kp _ zm).trans qm)
    unfold l23_0
    cases hgd : goodK s.el out i with
    | true =>
      rw [hgd] at c1 hN
      rw [if_pos rfl] at hN
      simp (disch := first | assumption | omega | (simp (disch := first | assumption | omega) only [sB, Nat.reduceAdd, Nat.reduceLT, Nat.reduceLeDiff, Nat.reduceEqDiff, Nat.reduceMul, ↓reduceIte]; done) | fail) only [sA, ↓reduceIte, Nat.reduceLT, Nat.reduceEqDiff, Nat.reduceAdd, Nat.reduceLeDiff, k1, k8, k9, q9, c1]
      exact ⟨_, _, _, _, rfl, .inr ⟨by simp, rfl, H.mono (by omega), by omega, kp, ⟨i, q9, .inr ⟨hi, hN⟩⟩, by simp (disch := first | assumption | omega | (simp (disch := first | assumption | omega) only [sB, Nat.reduceAdd, Nat.reduceLT, Nat.reduceLeDiff, Nat.reduceEqDiff, Nat.reduceMul, ↓reduceIte]; done) | fail) only [sA, ↓reduceIte, Nat.reduceLT, Nat.reduceEqDiff, Nat.reduceAdd, Nat.reduceLeDiff, k1, g1], by simp (disch := first | assumption | omega | (simp (disch := first | assumption | omega) only [sB, Nat.reduceAdd, Nat.reduceLT, Nat.reduceLeDiff, Nat.reduceEqDiff, Nat.reduceMul, ↓reduceIte]; done) | fail) only [sA, ↓reduceIte, Nat.reduceLT, Nat.reduceEqDiff, Nat.reduceAdd, Nat.reduceLeDiff, k2], by simp (disch := first | assumption | omega | (simp (disch := first | assumption | omega) only [sB, Nat.reduceAdd, Nat.reduceLT, Nat.reduceLeDiff, Nat.reduceEqDiff, Nat.reduceMul, ↓reduceIte]; done) | fail) only [sA, ↓reduceIte, Nat.reduceLT, Nat.reduceEqDiff, Nat.reduceAdd, Nat.reduceLeDiff, k6], by simp (disch := first | assumption | omega | (simp (disch := first | assumption | omega) only [sB, Nat.reduceAdd, Nat.reduceLT, Nat.reduceLeDiff, Nat.reduceEqDiff, Nat.reduceMul, ↓reduceIte]; done) | fail) only [sA, ↓reduceIte, Nat.reduceLT, Nat.reduceEqDiff, Nat.reduceAdd, Nat.reduceLeDiff, k7], by simp (disch := first | assumption | omega | (simp (disch := first | assumption | omega) only [sB, Nat.reduceAdd, Nat.reduceLT, Nat.reduceLeDiff, Nat.reduceEqDiff, Nat.reduceMul, ↓reduceIte]; done) | fail) only [sA, ↓reduceIte, Nat.reduceLT, Nat.reduceEqDiff, Nat.reduceAdd, Nat.reduceLeDiff, k8, g8], by simp (disch := first | assumption | omega | (simp (disch := first | assumption | omega) only [sB, Nat.reduceAdd, Nat.reduceLT, Nat.reduceLeDiff, Nat.reduceEqDiff, Nat.reduceMul, ↓reduceIte]; done) | fail) only [sA, ↓reduceIte, Nat.reduceLT, Nat.reduceEqDiff, Nat.reduceAdd, Nat.reduceLeDiff, k9, g9]⟩⟩
    | false =>
      rw [hgd] at c1 hN
      rw [if_neg (by decide)] at hN
      simp (disch := first | assumption | omega | (simp (disch := first | assumption | omega) only [sB, Nat.reduceAdd, Nat.reduceLT, Nat.reduceLeDiff, Nat.reduceEqDiff, Nat.reduceMul, ↓reduceIte]; done) | fail) only [sA, ↓reduceIte, Nat.reduceLT, Nat.reduceEqDiff, Nat.reduceAdd, Nat.reduceLeDiff, k1, k8, k9, q9, c1]
      exact ⟨_, _, _, _, rfl, .inl ⟨rfl, (H.set (r := r9) (by omega) (fun q _ => lowO_one (low_flat rfl))).mono (by omega), by omega, fun q hq => by rw [getO_setO _ _ _ _ (by rw [q9]; exact fun h => by cases h), if_neg hq]; exact kp q hq, getO_set1 q9, hN, by simp (disch := first | assumption | omega | (simp (disch := first | assumption | omega) only [sB, Nat.reduceAdd, Nat.reduceLT, Nat.reduceLeDiff, Nat.reduceEqDiff, Nat.reduceMul, ↓reduceIte]; done) | fail) only [sA, ↓reduceIte, Nat.reduceLT, Nat.reduceEqDiff, Nat.reduceAdd, Nat.reduceLeDiff, k1, g1], by simp (disch := first | assumption | omega | (simp (disch := first | assumption | omega) only [sB, Nat.reduceAdd, Nat.reduceLT, Nat.reduceLeDiff, Nat.reduceEqDiff, Nat.reduceMul, ↓reduceIte]; done) | fail) only [sA, ↓reduceIte, Nat.reduceLT, Nat.reduceEqDiff, Nat.reduceAdd, Nat.reduceLeDiff, k2], by simp (disch := first | assumption | omega | (simp (disch := first | assumption | omega) only [sB, Nat.reduceAdd, Nat.reduceLT, Nat.reduceLeDiff, Nat.reduceEqDiff, Nat.reduceMul, ↓reduceIte]; done) | fail) only [sA, ↓reduceIte, Nat.reduceLT, Nat.reduceEqDiff, Nat.reduceAdd, Nat.reduceLeDiff, k6], by simp (disch := first | assumption | omega | (simp (disch := first | assumption | omega) only [sB, Nat.reduceAdd, Nat.reduceLT, Nat.reduceLeDiff, Nat.reduceEqDiff, Nat.reduceMul, ↓reduceIte]; done) | fail) only [sA, ↓reduceIte, Nat.reduceLT, Nat.reduceEqDiff, Nat.reduceAdd, Nat.reduceLeDiff, k7], by simp (disch := first | assumption | omega | (simp (disch := first | assumption | omega) only [sB, Nat.reduceAdd, Nat.reduceLT, Nat.reduceLeDiff, Nat.reduceEqDiff, Nat.reduceMul, ↓reduceIte]; done) | fail) only [sA, ↓reduceIte, Nat.reduceLT, Nat.reduceEqDiff, Nat.reduceAdd, Nat.reduceLeDiff, k8, g8], by simp (disch := first | assumption | omega | (simp (disch := first | assumption | omega) only [sB, Nat.reduceAdd, Nat.reduceLT, Nat.reduceLeDiff, Nat.reduceEqDiff, Nat.reduceMul, ↓reduceIte]; done) | fail) only [sA, ↓reduceIte, Nat.reduceLT, Nat.reduceEqDiff, Nat.reduceAdd, Nat.reduceLeDiff, k9, g9]⟩⟩

set_option maxHeartbeats 4000000 in
/-- the program's Order -/
theorem recOrder (s : Sl Cal) (a : Int) (n : Nat) (h : Hps) (hl : s.el.length < 1000000000) (hf : Fewer 1000000000 s.el) (hg : ∀ k, n ≤ k → GoodAt k h) :
    callFn (LX (cF Go.Proofs.Try.prog)) n h [slD 2 encC s, .int .i64 a] ((cF Go.Proofs.Try.prog) 23) = .ok (ordD s.el a) n h := by
  have hgn := hg n (Nat.le_refl _)
  unfold ordD
  by_cases h0 : s.el.length = 0
  · have he : s.el = [] := List.length_eq_zero_iff.1 h0
    have hres : (if 1 ≤ a ∧ a ≤ 100 then ordR (ordL a.toNat s.el.length s.el []) else if s.el.isEmpty = true then .tup [.nils, .bool true] else .tup [.nils, .bool false]) = D.tup [.nils, .bool true] := by
      rw [he]; split <;> rfl
    rw [hres]
    have H0 : Hp n h (n + 17) ((n + 16, .row 1 [.mp (n + 15)]) :: (n + 15, .map []) :: (n, .row 1 [slD 2 encC s]) :: h) :=
      (((Hp.start hg).box (r := n) (m := n + 1) (by omega) (by omega) flat_slD).cons (r := n + 15) (m := n + 16) (by omega) (by omega) (fun q _ => low_tak [] q)).cons (r := n + 16) (m := n + 17) (by omega) (by omega) (fun q hq => lowO_one (low_mp (by omega)))
    have F4 := fun m hm => finish_flat (d := .tup [.nils, .bool true]) rfl (H0.mono (m := m) hm)
    rw [f23_eq]; unfold c23; rw [callFn_eq (by rfl)]
    simp (disch := first | assumption | omega | (simp (disch := first | assumption | omega) only [sB, Nat.reduceAdd, Nat.reduceLT, Nat.reduceLeDiff, Nat.reduceEqDiff, Nat.reduceMul, ↓reduceIte, one_nilm, one_mp]; done) | fail) only [sA, ↓reduceIte, Nat.reduceLT, Nat.reduceEqDiff, Nat.reduceAdd, Nat.reduceLeDiff, sub_mp, boxD_nilm, h0, one_nilm, one_mp]
    generalize hr : LX (cF Go.Proofs.Try.prog) (.loop l23_1) _ _ _ = r
    obtain ⟨x, e2, n2, h2, rfl, rfl, p2, rfl, g6⟩ := loop_up hr 0
      (fun i e n' h' => h' = (n + 16, .row 1 [.mp (n + 15)]) :: (n + 15, .map []) :: (n, .row 1 [slD 2 encC s]) :: h ∧ n + 17 ≤ n' ∧ get (po 2) e = .ptr n 0 0 ∧ get (po 6) e = .nils)
      (fun x e n' h' => x = .exit 0 ∧ n + 17 ≤ n' ∧ h' = (n + 16, .row 1 [.mp (n + 15)]) :: (n + 15, .map []) :: (n, .row 1 [slD 2 encC s]) :: h ∧ get (po 6) e = .nils)
      (by
        rintro e n' h' ⟨rfl, p1, g2, g6⟩
        unfold l23_1
        simp (disch := first | assumption | omega | (simp (disch := first | assumption | omega) only [sB, Nat.reduceAdd, Nat.reduceLT, Nat.reduceLeDiff, Nat.reduceEqDiff, Nat.reduceMul, ↓reduceIte]; done) | fail) only [sA, ↓reduceIte, Nat.reduceLT, Nat.reduceEqDiff, Nat.reduceAdd, Nat.reduceLeDiff, g2, h0]
        exact ⟨_, _, _, _, rfl, by simp, rfl, by omega, rfl, by simp (disch := first | assumption | omega | (simp (disch := first | assumption | omega) only [sB, Nat.reduceAdd, Nat.reduceLT, Nat.reduceLeDiff, Nat.reduceEqDiff, Nat.reduceMul, ↓reduceIte]; done) | fail) only [sA, ↓reduceIte, Nat.reduceLT, Nat.reduceEqDiff, Nat.reduceAdd, Nat.reduceLeDiff, g6]⟩)
      (fun i e n' h' hi => absurd hi (Nat.not_lt_zero _)) ⟨rfl, by omega, by simp (disch := first | assumption | omega | (simp (disch := first | assumption | omega) only [sB, Nat.reduceAdd, Nat.reduceLT, Nat.reduceLeDiff, Nat.reduceEqDiff, Nat.reduceMul, ↓reduceIte]; done) | fail) only [sA, ↓reduceIte, Nat.reduceLT, Nat.reduceEqDiff, Nat.reduceAdd, Nat.reduceLeDiff], by simp (disch := first | assumption | omega | (simp (disch := first | assumption | omega) only [sB, Nat.reduceAdd, Nat.reduceLT, Nat.reduceLeDiff, Nat.reduceEqDiff, Nat.reduceMul, ↓reduceIte]; done) | fail) only [sA, ↓reduceIte, Nat.reduceLT, Nat.reduceEqDiff, Nat.reduceAdd, Nat.reduceLeDiff]⟩
    simp (disch := first | assumption | omega | (simp (disch := first | assumption | omega) only [sB, Nat.reduceAdd, Nat.reduceLT, Nat.reduceLeDiff, Nat.reduceEqDiff, Nat.reduceMul, ↓reduceIte]; done) | fail) only [sA, ↓reduceIte, Nat.reduceLT, Nat.reduceEqDiff, Nat.reduceAdd, Nat.reduceLeDiff, g6, F4]
  · by_cases ha : 1 ≤ a ∧ a ≤ 100
    · rw [if_pos ha]
      obtain ⟨A, rfl⟩ : ∃ A : Nat, a = (A : Int) := Int.eq_ofNat_of_zero_le (by omega)
      rw [Int.toNat_natCast]
      rw [f23_eq]; unfold c23; rw [callFn_eq (by rfl)]
      simp (disch := first | assumption | omega | (simp (disch := first | assumption | omega) only [sB, Nat.reduceAdd, Nat.reduceLT, Nat.reduceLeDiff, Nat.reduceEqDiff, Nat.reduceMul, ↓reduceIte, one_nilm, one_mp]; done) | fail) only [sA, ↓reduceIte, Nat.reduceLT, Nat.reduceEqDiff, Nat.reduceAdd, Nat.reduceLeDiff, sub_mp, boxD_nilm, one_nilm, one_mp]
      generalize hR : ordL A s.el.length s.el [] = R
      have H0 : Hp n h (n + 17) ((n + 16, .row 1 [.mp (n + 15)]) :: (n + 15, .map []) :: (n, .row 1 [slD 2 encC s]) :: h) :=
        (((Hp.start hg).box (r := n) (m := n + 1) (by omega) (by omega) flat_slD).cons (r := n + 15) (m := n + 16) (by omega) (by omega) (fun q _ => low_tak [] q)).cons (r := n + 16) (m := n + 17) (by omega) (by omega) (fun q hq => lowO_one (low_mp (by omega)))
      generalize hr : LX (cF Go.Proofs.Try.prog) (.loop l23_1) _ _ _ = r
      obtain ⟨x, e2, n2, h2, rfl, H2, q⟩ := loop_at hr
        (fun f e n' h' => Hp n h n' h' ∧ n + 17 ≤ n' ∧ getO h' (n + 16) = .row 1 [.mp (n + 15)] ∧ get (po 1) e = .int .i64 (A : Int) ∧ get (po 2) e = .ptr n 0 0 ∧ get (po 7) e = .ptr (n + 16) 0 0 ∧ get (po 8) e = .fn 62 [] [.ptr n 0 0, .ptr (n + 16) 0 0] ∧
          ∃ (t : Sl Cal) (out : List Nat) (dd : D), t.el.length ≤ f ∧ f ≤ s.el.length ∧ out.length + f ≤ s.el.length ∧ Fewer 1000000000 t.el ∧ ordL A f t.el out = R ∧ getO h' n = .row 1 [slD 2 encC t] ∧ getO h' (n + 15) = .map (takM out) ∧ Bld 1 encK (n + 17) out h' dd ∧ get (po 6) e = dd)
        (fun x e n' h' => Hp n h n' h' ∧ ((x = .exit 0 ∧ ∃ (out : List Nat) (dd : D), R = some out ∧ Bld 1 encK (n + 17) out h' dd ∧ get (po 6) e = dd) ∨ (x = .ret ∧ R = none ∧ get (po 4) e = .nils ∧ get (po 5) e = .bool false)))
        (by
          rintro f e n' h' ⟨H, p1, b7, g1, g2, g7, g8, t, out, dd, hlt, hfl, hol, hft, hS, b2, bm, B, g6⟩
          unfold l23_1
          by_cases ht : t.el.length = 0
          · simp (disch := first | assumption | omega | (simp (disch := first | assumption | omega) only [sB, Nat.reduceAdd, Nat.reduceLT, Nat.reduceLeDiff, Nat.reduceEqDiff, Nat.reduceMul, ↓reduceIte]; done) | fail) only [sA, ↓reduceIte, Nat.reduceLT, Nat.reduceEqDiff, Nat.reduceAdd, Nat.reduceLeDiff, g2, b2, ht]
            refine ⟨_, _, _, _, rfl, .inr ⟨by simp, H.mono (by omega), .inl ⟨rfl, out, dd, ?_, B, by simp (disch := first | assumption | omega | (simp (disch := first | assumption | omega) only [sB, Nat.reduceAdd, Nat.reduceLT, Nat.reduceLeDiff, Nat.reduceEqDiff, Nat.reduceMul, ↓reduceIte]; done) | fail) only [sA, ↓reduceIte, Nat.reduceLT, Nat.reduceEqDiff, Nat.reduceAdd, Nat.reduceLeDiff, g6]⟩⟩⟩
            have he : t.el = [] := List.length_eq_zero_iff.1 ht
            rw [← hS, he]
            cases f <;> rfl
          · obtain ⟨f, rfl⟩ : ∃ f', f = f' + 1 := ⟨f - 1, by omega⟩
            unfold ordL at hS
            rw [if_neg (fun h => ht (by rw [List.isEmpty_iff.1 h]; rfl))] at hS
            have hlt2 : t.el.length > 0 := by omega
            have hn := H.le
            simp (disch := first | assumption | omega | (simp (disch := first | assumption | omega) only [sB, Nat.reduceAdd, Nat.reduceLT, Nat.reduceLeDiff, Nat.reduceEqDiff, Nat.reduceMul, ↓reduceIte]; done) | fail) only [sA, ↓reduceIte, Nat.reduceLT, Nat.reduceEqDiff, Nat.reduceAdd, Nat.reduceLeDiff, g1, g2, g6, g7, g8, b2, hlt2]
            generalize hr : LX (cF Go.Proofs.Try.prog) (.loop l23_0) _ _ _ = r
            have hB9 : off (n' + 3) dd := B.off (H.good n' (Nat.le_refl _)) (by omega)
            obtain ⟨x, e3, n3, h3, rfl, rfl, H3, p3, kp, ⟨i, b9, hi⟩, l1, l2, l6, l7, l8, l9⟩ := ordIn n h A (by omega) t out (by omega) hft (r2 := n) (rm := n + 15) (r7 := n + 16) (r9 := n' + 3) hr ((H.box (r := n' + 3) (m := n' + 4) (by omega) (by omega) rfl).mono (by omega)) (by omega) (getO_keep b2 (by omega)) (getO_keep b7 (by omega)) (getO_keep bm (by omega)) (by simp (disch := first | assumption | omega | (simp (disch := first | assumption | omega) only [sB, Nat.reduceAdd, Nat.reduceLT, Nat.reduceLeDiff, Nat.reduceEqDiff, Nat.reduceMul, ↓reduceIte]; done) | fail) only [sA, ↓reduceIte, Nat.reduceLT, Nat.reduceEqDiff, Nat.reduceAdd, Nat.reduceLeDiff]) (by omega) (by omega) (by omega) (by simp (disch := first | assumption | omega | (simp (disch := first | assumption | omega) only [sB, Nat.reduceAdd, Nat.reduceLT, Nat.reduceLeDiff, Nat.reduceEqDiff, Nat.reduceMul, ↓reduceIte]; done) | fail) only [sA, ↓reduceIte, Nat.reduceLT, Nat.reduceEqDiff, Nat.reduceAdd, Nat.reduceLeDiff, g1]) (by simp (disch := first | assumption | omega | (simp (disch := first | assumption | omega) only [sB, Nat.reduceAdd, Nat.reduceLT, Nat.reduceLeDiff, Nat.reduceEqDiff, Nat.reduceMul, ↓reduceIte]; done) | fail) only [sA, ↓reduceIte, Nat.reduceLT, Nat.reduceEqDiff, Nat.reduceAdd, Nat.reduceLeDiff, g8]) (by simp (disch := first | assumption | omega | (simp (disch := first | assumption | omega) only [sB, Nat.reduceAdd, Nat.reduceLT, Nat.reduceLeDiff, Nat.reduceEqDiff, Nat.reduceMul, ↓reduceIte]; done) | fail) only [sA, ↓reduceIte, Nat.reduceLT, Nat.reduceEqDiff, Nat.reduceAdd, Nat.reduceLeDiff])
            replace l1 : get (po 1) e3 = .int .i64 (A : Int) := l1.trans (by simp (disch := first | assumption | omega | (simp (disch := first | assumption | omega) only [sB, Nat.reduceAdd, Nat.reduceLT, Nat.reduceLeDiff, Nat.reduceEqDiff, Nat.reduceMul, ↓reduceIte]; done) | fail) only [sA, ↓reduceIte, Nat.reduceLT, Nat.reduceEqDiff, Nat.reduceAdd, Nat.reduceLeDiff, g1])
            replace l2 : get (po 2) e3 = .ptr n 0 0 := l2.trans (by simp (disch := first | assumption | omega | (simp (disch := first | assumption | omega) only [sB, Nat.reduceAdd, Nat.reduceLT, Nat.reduceLeDiff, Nat.reduceEqDiff, Nat.reduceMul, ↓reduceIte]; done) | fail) only [sA, ↓reduceIte, Nat.reduceLT, Nat.reduceEqDiff, Nat.reduceAdd, Nat.reduceLeDiff, g2])
            replace l6 : get (po 6) e3 = dd := l6.trans (by simp (disch := first | assumption | omega | (simp (disch := first | assumption | omega) only [sB, Nat.reduceAdd, Nat.reduceLT, Nat.reduceLeDiff, Nat.reduceEqDiff, Nat.reduceMul, ↓reduceIte]; done) | fail) only [sA, ↓reduceIte, Nat.reduceLT, Nat.reduceEqDiff, Nat.reduceAdd, Nat.reduceLeDiff, g6])
            replace l7 : get (po 7) e3 = .ptr (n + 16) 0 0 := l7.trans (by simp (disch := first | assumption | omega | (simp (disch := first | assumption | omega) only [sB, Nat.reduceAdd, Nat.reduceLT, Nat.reduceLeDiff, Nat.reduceEqDiff, Nat.reduceMul, ↓reduceIte]; done) | fail) only [sA, ↓reduceIte, Nat.reduceLT, Nat.reduceEqDiff, Nat.reduceAdd, Nat.reduceLeDiff, g7])
            replace l8 : get (po 8) e3 = .fn 62 [] [.ptr n 0 0, .ptr (n + 16) 0 0] := l8.trans (by simp (disch := first | assumption | omega | (simp (disch := first | assumption | omega) only [sB, Nat.reduceAdd, Nat.reduceLT, Nat.reduceLeDiff, Nat.reduceEqDiff, Nat.reduceMul, ↓reduceIte]; done) | fail) only [sA, ↓reduceIte, Nat.reduceLT, Nat.reduceEqDiff, Nat.reduceAdd, Nat.reduceLeDiff, g8])
            replace l9 : get (po 9) e3 = .ptr (n' + 3) 0 0 := l9.trans (by simp (disch := first | assumption | omega | (simp (disch := first | assumption | omega) only [sB, Nat.reduceAdd, Nat.reduceLT, Nat.reduceLeDiff, Nat.reduceEqDiff, Nat.reduceMul, ↓reduceIte]; done) | fail) only [sA, ↓reduceIte, Nat.reduceLT, Nat.reduceEqDiff, Nat.reduceAdd, Nat.reduceLeDiff])
            replace b2 : getO h3 n = .row 1 [slD 2 encC t] := (kp _ (by omega)).trans (getO_keep b2 (by omega))
            replace b7 : getO h3 (n + 16) = .row 1 [.mp (n + 15)] := (kp _ (by omega)).trans (getO_keep b7 (by omega))
            replace bm : getO h3 (n + 15) = .map (takM out) := (kp _ (by omega)).trans (getO_keep bm (by omega))
            have B3 : Bld 1 encK (n + 17) out h3 dd := (B.consz hB9).via kp hB9
            rcases hi with ⟨rfl, hi⟩ | ⟨hiA, hi⟩
            · rw [hi] at hS
              simp (disch := first | assumption | omega | (simp (disch := first | assumption | omega) only [sB, Nat.reduceAdd, Nat.reduceLT, Nat.reduceLeDiff, Nat.reduceEqDiff, Nat.reduceMul, ↓reduceIte]; done) | fail) only [sA, ↓reduceIte, Nat.reduceLT, Nat.reduceEqDiff, Nat.reduceAdd, Nat.reduceLeDiff, l1, l9, b9]
              exact ⟨_, _, _, _, rfl, .inr ⟨by simp, H3.mono (by omega), .inr ⟨rfl, hS.symm, by simp (disch := first | assumption | omega | (simp (disch := first | assumption | omega) only [sB, Nat.reduceAdd, Nat.reduceLT, Nat.reduceLeDiff, Nat.reduceEqDiff, Nat.reduceMul, ↓reduceIte]; done) | fail) only [sA, ↓reduceIte, Nat.reduceLT, Nat.reduceEqDiff, Nat.reduceAdd, Nat.reduceLeDiff], by simp (disch := first | assumption | omega | (simp (disch := first | assumption | omega) only [sB, Nat.reduceAdd, Nat.reduceLT, Nat.reduceLeDiff, Nat.reduceEqDiff, Nat.reduceMul, ↓reduceIte]; done) | fail) only [sA, ↓reduceIte, Nat.reduceLT, Nat.reduceEqDiff, Nat.reduceAdd, Nat.reduceLeDiff]⟩⟩⟩
            · rw [hi] at hS
              replace hS : ordL A f (t.el.filter fun c => !(atC c i == 2)) (out ++ [i]) = R := hS
              obtain ⟨hgi, _, _⟩ := next_good _ _ _ _ _ hi
              obtain ⟨hio, hfl2⟩ := good_some hgi
              have hmu : ∀ m, mupdD m h3 (.int .i64) (.int .i64 (i : Int)) (.int .i64 1) (.mp (n + 15)) = .ok .junk m (setO h3 (n + 15) (.map (takM (out ++ [i])))) := fun m => mupd_tak bm hio
              generalize hh4 : setO h3 (n + 15) (.map (takM (out ++ [i]))) = h4 at hmu
              have H4 : Hp n h n3 h4 := by rw [← hh4]; exact H3.set (by omega) (fun q _ => low_tak _ q)
              have k4 : ∀ q, q ≠ n + 15 → getO h4 q = getO h3 q := fun q hq => by rw [← hh4, getO_setO _ _ _ _ (by rw [bm]; exact fun h => by cases h), if_neg hq]
              have b4m : getO h4 (n + 15) = .map (takM (out ++ [i])) := by rw [← hh4, getO_setO _ _ _ _ (by rw [bm]; exact fun h => by cases h), if_pos rfl]
              have B4 : Bld 1 encK (n + 17) out h4 dd := B3.via k4 (B3.off' (by omega))
              obtain ⟨D', H', AA⟩ := app_bldz (b := 8) B4 H4 (by omega) (by omega) lowK [i] (by simp; omega)
              have A1 := fun m hm => (AA m hm).1
              have A2 := fun m hm => (AA m hm).2.1
              have A3 := fun m hm => (AA m hm).2.2.1
              have A4 := fun m hm => (AA m hm).2.2.2.1
              simp only [encK, List.map_cons, List.map_nil] at A1
              have hd1 := B4.okD
              have hd3 : ∀ m m' h'', n3 ≤ m → okD m' h'' (D' m) = .ok (D' m) m' h'' := fun m m' h'' hm => (A2 m hm).okD m' h''
              have b49 : getO h4 (n' + 3) = .row 1 [.int .i64 (i : Int)] := (k4 _ (by omega)).trans b9
              have b47 : getO h4 (n + 16) = .row 1 [.mp (n + 15)] := (k4 _ (by omega)).trans b7
              have b42 : getO h4 n = .row 1 [slD 2 encC t] := (k4 _ (by omega)).trans b2
              have b5 : ∀ m, n3 ≤ m → getO (H' m) n = .row 1 [slD 2 encC t] := fun m hm => (A4 m hm n (by omega) (B4.off' (by omega))).1.trans b42
              have b57 : ∀ m, n3 ≤ m → getO (H' m) (n + 16) = .row 1 [.mp (n + 15)] := fun m hm => (A4 m hm (n + 16) (by omega) (B4.off' (by omega))).1.trans b47
              have b5m : ∀ m, n3 ≤ m → getO (H' m) (n + 15) = .map (takM (out ++ [i])) := fun m hm => (A4 m hm (n + 15) (by omega) (B4.off' (by omega))).1.trans b4m
              have b59 : ∀ m, n3 ≤ m → getO (H' m) (n' + 3) = .row 1 [.int .i64 (i : Int)] := fun m hm => (A4 m hm (n' + 3) (by omega) hB9).1.trans b49
              have k3 : ∀ m m2, n3 ≤ m → m + 1 ≤ m2 → callFn (LX (cF Go.Proofs.Try.prog)) m2 (H' m) [slD 2 encC t, .fn 65 [] [.ptr (n' + 3) 0 0]] ((cF Go.Proofs.Try.prog) 57) = .ok (slD 2 encC (Sl.app (t.el.filter fun c => !(atC c i == 2)))) m2 (H' m) :=
                fun m m2 hm hm2 => recKept (fun c => !(atC c i == 2)) _ t m2 _ (by omega) ((A3 m hm).good' hm2) (fun c hc m' h'' hm' H' => by
                  rw [callX_fn]
                  exact ord2 c i (n' + 3) m' h'' (hft c hc) H'.good ((H'.get (by omega)).trans (b59 m hm)))
              simp (disch := first | assumption | omega | (simp (disch := first | assumption | omega) only [sB, Nat.reduceAdd, Nat.reduceLT, Nat.reduceLeDiff, Nat.reduceEqDiff, Nat.reduceMul, ↓reduceIte]; done) | fail) only [sA, ↓reduceIte, Nat.reduceLT, Nat.reduceEqDiff, Nat.reduceAdd, Nat.reduceLeDiff, l1, l2, l6, l7, l9, b2, b7, b9, b49, hmu, A1, hd1, hd3, sub_mp, b5, k3]
              refine ⟨_, _, _, _, rfl, .inl ⟨rfl, f, by omega, ((A3 (n3 + 9) (by omega)).set (r := n) (by omega) (fun q _ => lowO_one (low_flat flat_slD))).mono (by omega), by omega, getO_set2 (b5 _ (by omega)) (b57 _ (by omega)) (by omega), by simp (disch := first | assumption | omega | (simp (disch := first | assumption | omega) only [sB, Nat.reduceAdd, Nat.reduceLT, Nat.reduceLeDiff, Nat.reduceEqDiff, Nat.reduceMul, ↓reduceIte]; done) | fail) only [sA, ↓reduceIte, Nat.reduceLT, Nat.reduceEqDiff, Nat.reduceAdd, Nat.reduceLeDiff, l1], by simp (disch := first | assumption | omega | (simp (disch := first | assumption | omega) only [sB, Nat.reduceAdd, Nat.reduceLT, Nat.reduceLeDiff, Nat.reduceEqDiff, Nat.reduceMul, ↓reduceIte]; done) | fail) only [sA, ↓reduceIte, Nat.reduceLT, Nat.reduceEqDiff, Nat.reduceAdd, Nat.reduceLeDiff, l2], by simp (disch := first | assumption | omega | (simp (disch := first | assumption | omega) only [sB, Nat.reduceAdd, Nat.reduceLT, Nat.reduceLeDiff, Nat.reduceEqDiff, Nat.reduceMul, ↓reduceIte]; done) | fail) only [sA, ↓reduceIte, Nat.reduceLT, Nat.reduceEqDiff, Nat.reduceAdd, Nat.reduceLeDiff, l7], by simp (disch := first | assumption | omega | (simp (disch := first | assumption | omega) only [sB, Nat.reduceAdd, Nat.reduceLT, Nat.reduceLeDiff, Nat.reduceEqDiff, Nat.reduceMul, ↓reduceIte]; done) | fail) only [sA, ↓reduceIte, Nat.reduceLT, Nat.reduceEqDiff, Nat.reduceAdd, Nat.reduceLeDiff, l8], _, out ++ [i], _, ?_, by omega, by rw [List.length_append, List.length_singleton]; omega, fun c hc => hft c (List.mem_filter.1 hc).1, hS, getO_set1 (b5 _ (by omega)), getO_set2 (b5 _ (by omega)) (b5m _ (by omega)) (by omega), (A2 _ (by omega)).set (b5 _ (by omega)) (by omega), by simp (disch := first | assumption | omega | (simp (disch := first | assumption | omega) only [sB, Nat.reduceAdd, Nat.reduceLT, Nat.reduceLeDiff, Nat.reduceEqDiff, Nat.reduceMul, ↓reduceIte]; done) | fail) only [sA, ↓reduceIte, Nat.reduceLT, Nat.reduceEqDiff, Nat.reduceAdd, Nat.reduceLeDiff]⟩⟩
              show (t.el.filter fun c => !(atC c i == 2)).length ≤ f
              omega)
        s.el.length ⟨H0.mono (by omega), by omega, by simp (disch := first | assumption | omega | (simp (disch := first | assumption | omega) only [sB, Nat.reduceAdd, Nat.reduceLT, Nat.reduceLeDiff, Nat.reduceEqDiff, Nat.reduceMul, ↓reduceIte]; done) | fail) only [sA, ↓reduceIte, Nat.reduceLT, Nat.reduceEqDiff, Nat.reduceAdd, Nat.reduceLeDiff], by simp (disch := first | assumption | omega | (simp (disch := first | assumption | omega) only [sB, Nat.reduceAdd, Nat.reduceLT, Nat.reduceLeDiff, Nat.reduceEqDiff, Nat.reduceMul, ↓reduceIte]; done) | fail) only [sA, ↓reduceIte, Nat.reduceLT, Nat.reduceEqDiff, Nat.reduceAdd, Nat.reduceLeDiff], by simp (disch := first | assumption | omega | (simp (disch := first | assumption | omega) only [sB, Nat.reduceAdd, Nat.reduceLT, Nat.reduceLeDiff, Nat.reduceEqDiff, Nat.reduceMul, ↓reduceIte]; done) | fail) only [sA, ↓reduceIte, Nat.reduceLT, Nat.reduceEqDiff, Nat.reduceAdd, Nat.reduceLeDiff], by simp (disch := first | assumption | omega | (simp (disch := first | assumption | omega) only [sB, Nat.reduceAdd, Nat.reduceLT, Nat.reduceLeDiff, Nat.reduceEqDiff, Nat.reduceMul, ↓reduceIte]; done) | fail) only [sA, ↓reduceIte, Nat.reduceLT, Nat.reduceEqDiff, Nat.reduceAdd, Nat.reduceLeDiff], by simp (disch := first | assumption | omega | (simp (disch := first | assumption | omega) only [sB, Nat.reduceAdd, Nat.reduceLT, Nat.reduceLeDiff, Nat.reduceEqDiff, Nat.reduceMul, ↓reduceIte]; done) | fail) only [sA, ↓reduceIte, Nat.reduceLT, Nat.reduceEqDiff, Nat.reduceAdd, Nat.reduceLeDiff], s, [], .nils, Nat.le_refl _, Nat.le_refl _, by simp, hf, hR, by simp (disch := first | assumption | omega | (simp (disch := first | assumption | omega) only [sB, Nat.reduceAdd, Nat.reduceLT, Nat.reduceLeDiff, Nat.reduceEqDiff, Nat.reduceMul, ↓reduceIte]; done) | fail) only [sA, ↓reduceIte, Nat.reduceLT, Nat.reduceEqDiff, Nat.reduceAdd, Nat.reduceLeDiff], by simp (disch := first | assumption | omega | (simp (disch := first | assumption | omega) only [sB, Nat.reduceAdd, Nat.reduceLT, Nat.reduceLeDiff, Nat.reduceEqDiff, Nat.reduceMul, ↓reduceIte]; done) | fail) only [sA, ↓reduceIte, Nat.reduceLT, Nat.reduceEqDiff, Nat.reduceAdd, Nat.reduceLeDiff]; rfl, .inl ⟨rfl, rfl⟩, by simp (disch := first | assumption | omega | (simp (disch := first | assumption | omega) only [sB, Nat.reduceAdd, Nat.reduceLT, Nat.reduceLeDiff, Nat.reduceEqDiff, Nat.reduceMul, ↓reduceIte]; done) | fail) only [sA, ↓reduceIte, Nat.reduceLT, Nat.reduceEqDiff, Nat.reduceAdd, Nat.reduceLeDiff]⟩
      rcases q with ⟨rfl, out, dd, rfl, B, g6⟩ | ⟨rfl, rfl, g4, g5⟩
      · have hd := B.okD
        have F4 := fun m hm => finishD_fz (n := m) (Fz.tup (.cons (Fz.bld elemK (B.wide (show n ≤ n + 17 by omega))) (.cons ((Fz.of1 (d := .bool true) rfl).mono (show 1 ≤ 3 by omega)) .nil))) (by omega) (H2.mono (m := m) hm).leak
        simp (disch := first | assumption | omega | (simp (disch := first | assumption | omega) only [sB, Nat.reduceAdd, Nat.reduceLT, Nat.reduceLeDiff, Nat.reduceEqDiff, Nat.reduceMul, ↓reduceIte]; done) | fail) only [sA, ↓reduceIte, Nat.reduceLT, Nat.reduceEqDiff, Nat.reduceAdd, Nat.reduceLeDiff, g6, hd, F4]
        rw [H2.drop]
        rfl
      · have F4 := fun m hm => finish_flat (d := .tup [.nils, .bool false]) rfl (H2.mono (m := m) hm)
        simp (disch := first | assumption | omega | (simp (disch := first | assumption | omega) only [sB, Nat.reduceAdd, Nat.reduceLT, Nat.reduceLeDiff, Nat.reduceEqDiff, Nat.reduceMul, ↓reduceIte]; done) | fail) only [sA, ↓reduceIte, Nat.reduceLT, Nat.reduceEqDiff, Nat.reduceAdd, Nat.reduceLeDiff, g4, g5, F4]
        rfl
    · rw [if_neg ha, if_neg (fun h => h0 (by rw [List.isEmpty_iff.1 h]; rfl))]
      have hlt2 : ((s.el.length : Nat) : Int) > 0 := by omega
      rw [f23_eq]; unfold c23; rw [callFn_eq (by rfl)]
      by_cases h1 : a < 1
      · simp (disch := first | assumption | omega | (simp (disch := first | assumption | omega) only [sB, Nat.reduceAdd, Nat.reduceLT, Nat.reduceLeDiff, Nat.reduceEqDiff, Nat.reduceMul, ↓reduceIte]; done) | fail) only [sA, ↓reduceIte, Nat.reduceLT, Nat.reduceEqDiff, Nat.reduceAdd, Nat.reduceLeDiff, hlt2, h1]
      · have h2 : a > 100 := by omega
        simp (disch := first | assumption | omega | (simp (disch := first | assumption | omega) only [sB, Nat.reduceAdd, Nat.reduceLT, Nat.reduceLeDiff, Nat.reduceEqDiff, Nat.reduceMul, ↓reduceIte]; done) | fail) only [sA, ↓reduceIte, Nat.reduceLT, Nat.reduceEqDiff, Nat.reduceAdd, Nat.reduceLeDiff, hlt2, h1, h2]
end Go.Proofs.Ytjagmfgjlfkmgaa
