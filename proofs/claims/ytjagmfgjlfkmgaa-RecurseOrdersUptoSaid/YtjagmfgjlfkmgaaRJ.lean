/- Order: the reference's answer. No condition. -/
import Derived.Test.YtjagmfgjlfkmgaaRO
set_option linter.unusedSimpArgs false
set_option linter.unusedVariables false
namespace Go.Proofs.Ytjagmfgjlfkmgaa
open Go

theorem Bld.off_kind {α : Type} {enc : α → D} {k k' b q : Nat} {h : Hps} {l : List α} {d : D} {es : List D} (hB : Bld k enc b l h d) (hg : getO h q = .row k' es) (hk : k ≠ k') : Go.Proofs.Ytjagmfgjlfkmgaa.off q d := by
  rcases hB with ⟨_, rfl⟩ | ⟨r, _, _, rfl, q4⟩
  · exact fun _ _ _ _ e => by cases e
  · exact fun _ _ _ _ e => by
      cases e
      rw [hg] at q4
      cases q4
      exact hk rfl
theorem Bld.other {α β : Type} {enc : α → D} {enc' : β → D} {k k' b b' n : Nat} {h h1 : Hps} {l : List α} {l' : List β} {d d' : D} (hB : Bld k enc b l h d) (hC : Bld k' enc' b' l' h d') (hk : k ≠ k') (hg : GoodAt n h) (keep : ∀ q, q < n → Go.Proofs.Ytjagmfgjlfkmgaa.off q d → getO h1 q = getO h q) : Bld k' enc' b' l' h1 d' := by
  rcases hC with hC | ⟨r, q1, q2, rfl, q4⟩
  · exact .inl hC
  · exact .inr ⟨r, q1, q2, rfl, by rw [keep r (getO_low hg (by rw [q4]; exact fun h => by cases h)) (hB.off_kind q4 hk)]; exact q4⟩
theorem Bld.below {α : Type} {enc : α → D} {k b n : Nat} {h h1 : Hps} {l : List α} {d : D} (hC : Bld k enc b l h d) (hg : GoodAt n h) (keep : ∀ q, q < n → getO h1 q = getO h q) : Bld k enc b l h1 d := by
  rcases hC with hC | ⟨r, q1, q2, rfl, q4⟩
  · exact .inl hC
  · exact .inr ⟨r, q1, q2, rfl, by rw [keep r (getO_low hg (by rw [q4]; exact fun h => by cases h))]; exact q4⟩
theorem aggC (c : Cal) : ∃ cs, encC c = .agg cs ∧ cs.length = 2 := ⟨_, rfl, rfl⟩

/-- what is taken, as the reference's row of truths -/
def tk (out : List Nat) : List D := (List.range 101).map fun i => .bool (out.contains i)
theorem tk_get {out : List Nat} {k : Nat} (hk : k < 101) : (tk out).getD k .junk = .bool (out.contains k) := by
  unfold tk
  rw [List.getD_eq_getElem?_getD, List.getElem?_map, List.getElem?_range hk]
  rfl
theorem tk_len (out : List Nat) : (tk out).length = 101 := by unfold tk; rw [List.length_map, List.length_range]
theorem tk_put {out : List Nat} {k : Nat} (hk : k < 101) : put (tk out) k (.bool true) = tk (out ++ [k]) := by
  rw [put_eq]
  apply List.ext_getElem?
  intro i
  unfold tk
  by_cases h : i < 101
  · rw [List.getElem?_set, List.getElem?_map, List.getElem?_map, List.getElem?_range h, List.length_map, List.length_range]
    by_cases e : k = i
    · subst e
      rw [if_pos rfl, if_pos hk]
      show some (D.bool true) = some (D.bool ((out ++ [k]).contains k))
      rw [show (out ++ [k]).contains k = true by rw [List.contains_iff_mem]; simp]
    · rw [if_neg e]
      show some (D.bool (out.contains i)) = some (D.bool ((out ++ [k]).contains i))
      rw [List.contains_eq_mem, List.contains_eq_mem]
      have : (i ∈ out ++ [k]) ↔ i ∈ out := by
        rw [List.mem_append, List.mem_singleton]
        exact ⟨fun h => h.elim id (fun h => absurd h.symm e), .inl⟩
      simp only [this]
  · rw [List.getElem?_eq_none (by rw [List.length_set, List.length_map, List.length_range]; omega), List.getElem?_eq_none (by rw [List.length_map, List.length_range]; omega)]
theorem iaddr_ms {n k r l i : Nat} {h : Hps} {f : Bool} (hi : i < l) : iaddrD n h k (.ms k r 0 l f) i = .ok (.ptr r i 0) n h := by
  show ifR (Bool.and (Nat.blt i l) (Nat.beq k k)) (.ok (.ptr r (0 + i) 0) n h) = _
  rw [blt_iff, decide_eq_true hi, Nat.beq_refl, Nat.zero_add]; rfl
theorem st_tk {n r k : Nat} {h : Hps} {out : List Nat} (hk : k < 101) : storeR false 1 r k 0 (.bool true) n h (.row 1 (tk out)) = .ok .junk n (setO h r (.row 1 (tk (out ++ [k])))) := by
  show storeS r 1 k (tk out) n h (setS false 1 0 (nth (tk out) k) (.bool true)) = _
  rw [nth_eq, tk_get hk]
  show ifR (Nat.blt k (lenL (tk out))) (.ok .junk n (setO h r (.row 1 (put (tk out) k (.bool true))))) = _
  rw [lenL_eq, tk_len, blt_iff, decide_eq_true hk, tk_put hk]
  rfl
theorem mk_tk {n : Nat} {h : Hps} : natR (mkslD n h 1 1 (.bool false)) (.int .i64 101) = .ok (.ms 1 n 0 101 false) n ((n, .row 1 (tk [])) :: h) := eqOf rfl
theorem low_tk (out : List Nat) (m : Nat) : lowO m (.row 1 (tk out)) := lowO_row (fun d hd => by
  unfold tk at hd
  obtain ⟨i, _, rfl⟩ := List.mem_map.1 hd
  exact low_flat rfl)

set_option maxHeartbeats 4000000 in
/-- what the calls are at one place -/
theorem ordChk (A : Int) (cs : List Cal) (k n : Nat) (h : Hps) {dl : D} {ad : Nat → D} (hl : cs.length < 1000000000) (hf : Fewer 1000000000 cs) {n0 : Nat} {e : Tr} {h' : Hps} {r : Re} (hr : LX (cF Go.Proofs.Try.prog) (.loop l24_0) e n0 h' = r) (H : Hp n h n0 h') (S : Sv 2 encC n0 h' dl cs ad) (b : Bool)
    (g7 : get (po 7) e = dl) (g10 : get (po 10) e = .int .i64 (k : Int)) (g11 : get (po 11) e = .bool b) (g12 : get (po 12) e = .bool false) (g13 : get (po 13) e = .int .i64 0) :
    ∃ x e' n' h'', r = .ok x e' n' h'' ∧ x = .exit 4 ∧ h'' = h' ∧ n0 ≤ n' ∧ get (po 11) e' = .bool (b && cs.all (fun c => !(atC c k == 0))) ∧ get (po 12) e' = .bool (cs.any (fun c => atC c k == 2)) ∧
      get (po 1) e' = get (po 1) e ∧ get (po 6) e' = get (po 6) e ∧ get (po 7) e' = get (po 7) e ∧ get (po 8) e' = get (po 8) e ∧ get (po 9) e' = get (po 9) e ∧ get (po 10) e' = get (po 10) e := by
  have s1 := S.len
  have s2 := S.idx
  have s3 := S.okD
  have s4 := S.ld h' (fun _ _ => rfl)
  refine loop_up hr cs.length
    (fun i e' n' h'' => h'' = h' ∧ n0 ≤ n' ∧ get (po 11) e' = .bool (b && (cs.take i).all (fun c => !(atC c k == 0))) ∧ get (po 12) e' = .bool ((cs.take i).any (fun c => atC c k == 2)) ∧ get (po 13) e' = .int .i64 (i : Nat) ∧
      get (po 1) e' = get (po 1) e ∧ get (po 6) e' = get (po 6) e ∧ get (po 7) e' = get (po 7) e ∧ get (po 8) e' = get (po 8) e ∧ get (po 9) e' = get (po 9) e ∧ get (po 10) e' = get (po 10) e)
    (fun x e' n' h'' => x = .exit 4 ∧ h'' = h' ∧ n0 ≤ n' ∧ get (po 11) e' = .bool (b && cs.all (fun c => !(atC c k == 0))) ∧ get (po 12) e' = .bool (cs.any (fun c => atC c k == 2)) ∧
      get (po 1) e' = get (po 1) e ∧ get (po 6) e' = get (po 6) e ∧ get (po 7) e' = get (po 7) e ∧ get (po 8) e' = get (po 8) e ∧ get (po 9) e' = get (po 9) e ∧ get (po 10) e' = get (po 10) e)
    ?_ ?_ ⟨rfl, Nat.le_refl _, by rw [g11]; simp, by rw [g12]; simp, g13, rfl, rfl, rfl, rfl, rfl, rfl⟩
  · rintro e' n' h'' ⟨rfl, p1, q11, q12, q13, k1, k6, k7, k8, k9, k10⟩
    rw [List.take_length] at q11 q12
    rw [g7] at k7
    unfold l24_0
    simp (disch := first | assumption | omega | (simp (disch := first | assumption | omega) only [sB, Nat.reduceAdd, Nat.reduceLT, Nat.reduceLeDiff, Nat.reduceEqDiff, Nat.reduceMul, ↓reduceIte]; done) | fail) only [sA, ↓reduceIte, Nat.reduceLT, Nat.reduceEqDiff, Nat.reduceAdd, Nat.reduceLeDiff, k7, q13, s1, s3]
    exact ⟨_, _, _, _, rfl, by simp, rfl, rfl, by omega, by simp (disch := first | assumption | omega | (simp (disch := first | assumption | omega) only [sB, Nat.reduceAdd, Nat.reduceLT, Nat.reduceLeDiff, Nat.reduceEqDiff, Nat.reduceMul, ↓reduceIte]; done) | fail) only [sA, ↓reduceIte, Nat.reduceLT, Nat.reduceEqDiff, Nat.reduceAdd, Nat.reduceLeDiff, q11], by simp (disch := first | assumption | omega | (simp (disch := first | assumption | omega) only [sB, Nat.reduceAdd, Nat.reduceLT, Nat.reduceLeDiff, Nat.reduceEqDiff, Nat.reduceMul, ↓reduceIte]; done) | fail) only [sA, ↓reduceIte, Nat.reduceLT, Nat.reduceEqDiff, Nat.reduceAdd, Nat.reduceLeDiff, q12], by simp (disch := first | assumption | omega | (simp (disch := first | assumption | omega) only [sB, Nat.reduceAdd, Nat.reduceLT, Nat.reduceLeDiff, Nat.reduceEqDiff, Nat.reduceMul, ↓reduceIte]; done) | fail) only [sA, ↓reduceIte, Nat.reduceLT, Nat.reduceEqDiff, Nat.reduceAdd, Nat.reduceLeDiff, k1], by simp (disch := first | assumption | omega | (simp (disch := first | assumption | omega) only [sB, Nat.reduceAdd, Nat.reduceLT, Nat.reduceLeDiff, Nat.reduceEqDiff, Nat.reduceMul, ↓reduceIte]; done) | fail) only [sA, ↓reduceIte, Nat.reduceLT, Nat.reduceEqDiff, Nat.reduceAdd, Nat.reduceLeDiff, k6], by simp (disch := first | assumption | omega | (simp (disch := first | assumption | omega) only [sB, Nat.reduceAdd, Nat.reduceLT, Nat.reduceLeDiff, Nat.reduceEqDiff, Nat.reduceMul, ↓reduceIte]; done) | fail) only [sA, ↓reduceIte, Nat.reduceLT, Nat.reduceEqDiff, Nat.reduceAdd, Nat.reduceLeDiff, k7, g7], by simp (disch := first | assumption | omega | (simp (disch := first | assumption | omega) only [sB, Nat.reduceAdd, Nat.reduceLT, Nat.reduceLeDiff, Nat.reduceEqDiff, Nat.reduceMul, ↓reduceIte]; done) | fail) only [sA, ↓reduceIte, Nat.reduceLT, Nat.reduceEqDiff, Nat.reduceAdd, Nat.reduceLeDiff, k8], by simp (disch := first | assumption | omega | (simp (disch := first | assumption | omega) only [sB, Nat.reduceAdd, Nat.reduceLT, Nat.reduceLeDiff, Nat.reduceEqDiff, Nat.reduceMul, ↓reduceIte]; done) | fail) only [sA, ↓reduceIte, Nat.reduceLT, Nat.reduceEqDiff, Nat.reduceAdd, Nat.reduceLeDiff, k9], by simp (disch := first | assumption | omega | (simp (disch := first | assumption | omega) only [sB, Nat.reduceAdd, Nat.reduceLT, Nat.reduceLeDiff, Nat.reduceEqDiff, Nat.reduceMul, ↓reduceIte]; done) | fail) only [sA, ↓reduceIte, Nat.reduceLT, Nat.reduceEqDiff, Nat.reduceAdd, Nat.reduceLeDiff, k10]⟩
  · rintro i e' n' h'' hi ⟨rfl, p1, q11, q12, q13, k1, k6, k7, k8, k9, k10⟩
    rw [g7] at k7
    rw [g10] at k10
    have c1 : ∀ m, n' ≤ m → callFn (LX (cF Go.Proofs.Try.prog)) m h'' [.agg [slD 3 encP cs[i].frm, slD 1 encI cs[i].args], .int .i64 (k : Int)] (cF Go.Proofs.Try.prog 60) = .ok (.int .i64 (atC cs[i] k)) m h'' := fun m hm => refAt _ k m h'' (hf _ (List.getElem_mem hi)) (H.good' (by omega))
    have e1 : (cs.take (i + 1)).all (fun c => !(atC c k == 0)) = ((cs.take i).all (fun c => !(atC c k == 0)) && !(atC cs[i] k == 0)) := by
      rw [List.take_succ_eq_append_getElem hi, List.all_append, List.all_cons, List.all_nil, Bool.and_true]
    have e2 : (cs.take (i + 1)).any (fun c => atC c k == 2) = ((cs.take i).any (fun c => atC c k == 2) || (atC cs[i] k == 2)) := by
      rw [List.take_succ_eq_append_getElem hi, List.any_append, List.any_cons, List.any_nil, Bool.or_false]
    have s4i := fun m => s4 m i hi
    have hcase := at_cases cs[i] k
    rw [e1, e2]
    generalize (cs.take i).all (fun c => !(atC c k == 0)) = b1 at q11
    generalize (cs.take i).any (fun c => atC c k == 2) = b2 at q12
    generalize atC cs[i] k = T at c1 hcase
    simp only [encC] at s4i
    rw [← Bool.and_assoc]
    generalize (b && b1) = b1 at q11
    unfold l24_0
    rcases hcase with rfl | rfl | rfl <;> cases b1 <;> cases b2
    all_goals
      simp (disch := first | assumption | omega | (simp (disch := first | assumption | omega) only [sB, Nat.reduceAdd, Nat.reduceLT, Nat.reduceLeDiff, Nat.reduceEqDiff, Nat.reduceMul, ↓reduceIte]; done) | fail) only [sA, ↓reduceIte, Nat.reduceLT, Nat.reduceEqDiff, Nat.reduceAdd, Nat.reduceLeDiff, k7, k10, q11, q12, q13, s1, s2, s3, s4i, c1]
      exact ⟨_, _, _, _, rfl, .inl ⟨rfl, rfl, by omega, by simp (disch := first | assumption | omega | (simp (disch := first | assumption | omega) only [sB, Nat.reduceAdd, Nat.reduceLT, Nat.reduceLeDiff, Nat.reduceEqDiff, Nat.reduceMul, ↓reduceIte]; done) | fail) only [sA, ↓reduceIte, Nat.reduceLT, Nat.reduceEqDiff, Nat.reduceAdd, Nat.reduceLeDiff, q11] <;> rfl, by simp (disch := first | assumption | omega | (simp (disch := first | assumption | omega) only [sB, Nat.reduceAdd, Nat.reduceLT, Nat.reduceLeDiff, Nat.reduceEqDiff, Nat.reduceMul, ↓reduceIte]; done) | fail) only [sA, ↓reduceIte, Nat.reduceLT, Nat.reduceEqDiff, Nat.reduceAdd, Nat.reduceLeDiff, q12] <;> rfl, by simp (disch := first | assumption | omega | (simp (disch := first | assumption | omega) only [sB, Nat.reduceAdd, Nat.reduceLT, Nat.reduceLeDiff, Nat.reduceEqDiff, Nat.reduceMul, ↓reduceIte]; done) | fail) only [sA, ↓reduceIte, Nat.reduceLT, Nat.reduceEqDiff, Nat.reduceAdd, Nat.reduceLeDiff], by simp (disch := first | assumption | omega | (simp (disch := first | assumption | omega) only [sB, Nat.reduceAdd, Nat.reduceLT, Nat.reduceLeDiff, Nat.reduceEqDiff, Nat.reduceMul, ↓reduceIte]; done) | fail) only [sA, ↓reduceIte, Nat.reduceLT, Nat.reduceEqDiff, Nat.reduceAdd, Nat.reduceLeDiff, k1], by simp (disch := first | assumption | omega | (simp (disch := first | assumption | omega) only [sB, Nat.reduceAdd, Nat.reduceLT, Nat.reduceLeDiff, Nat.reduceEqDiff, Nat.reduceMul, ↓reduceIte]; done) | fail) only [sA, ↓reduceIte, Nat.reduceLT, Nat.reduceEqDiff, Nat.reduceAdd, Nat.reduceLeDiff, k6], by simp (disch := first | assumption | omega | (simp (disch := first | assumption | omega) only [sB, Nat.reduceAdd, Nat.reduceLT, Nat.reduceLeDiff, Nat.reduceEqDiff, Nat.reduceMul, ↓reduceIte]; done) | fail) only [sA, ↓reduceIte, Nat.reduceLT, Nat.reduceEqDiff, Nat.reduceAdd, Nat.reduceLeDiff, k7, g7], by simp (disch := first | assumption | omega | (simp (disch := first | assumption | omega) only [sB, Nat.reduceAdd, Nat.reduceLT, Nat.reduceLeDiff, Nat.reduceEqDiff, Nat.reduceMul, ↓reduceIte]; done) | fail) only [sA, ↓reduceIte, Nat.reduceLT, Nat.reduceEqDiff, Nat.reduceAdd, Nat.reduceLeDiff, k8], by simp (disch := first | assumption | omega | (simp (disch := first | assumption | omega) only [sB, Nat.reduceAdd, Nat.reduceLT, Nat.reduceLeDiff, Nat.reduceEqDiff, Nat.reduceMul, ↓reduceIte]; done) | fail) only [sA, ↓reduceIte, Nat.reduceLT, Nat.reduceEqDiff, Nat.reduceAdd, Nat.reduceLeDiff, k9], by simp (disch := first | assumption | omega | (simp (disch := first | assumption | omega) only [sB, Nat.reduceAdd, Nat.reduceLT, Nat.reduceLeDiff, Nat.reduceEqDiff, Nat.reduceMul, ↓reduceIte]; done) | fail) only [sA, ↓reduceIte, Nat.reduceLT, Nat.reduceEqDiff, Nat.reduceAdd, Nat.reduceLeDiff, k10, g10]⟩⟩

set_option maxHeartbeats 4000000 in
/-- the next place -/
theorem ordK (A : Int) (hA : A ≤ 100) (cs : List Cal) (out : List Nat) (n : Nat) (h : Hps) {dl : D} {ad : Nat → D} (hl : cs.length < 1000000000) (hf : Fewer 1000000000 cs) {n0 r8 : Nat} {e : Tr} {h' : Hps} {r : Re} (hr : LX (cF Go.Proofs.Try.prog) (.loop l24_1) e n0 h' = r) (H : Hp n h n0 h') (S : Sv 2 encC n0 h' dl cs ad)
    (b8 : getO h' r8 = .row 1 (tk out)) (g1 : get (po 1) e = .int .i64 A) (g7 : get (po 7) e = dl) (g8 : get (po 8) e = .ms 1 r8 0 101 false) (g9 : get (po 9) e = .int .i64 (-1)) (g10 : get (po 10) e = .int .i64 0) :
    ∃ x e' n' h'', r = .ok x e' n' h'' ∧ x = .exit 2 ∧ h'' = h' ∧ n0 ≤ n' ∧ get (po 9) e' = .int .i64 (match nextK cs out 0 A.toNat with | some q => (q : Int) | none => -1) ∧
      get (po 1) e' = get (po 1) e ∧ get (po 6) e' = get (po 6) e ∧ get (po 7) e' = get (po 7) e ∧ get (po 8) e' = get (po 8) e := by
  refine loop_at hr
    (fun j e' n' h'' => h'' = h' ∧ n0 ≤ n' ∧ (get (po 1) e' = get (po 1) e ∧ get (po 6) e' = get (po 6) e ∧ get (po 7) e' = get (po 7) e ∧ get (po 8) e' = get (po 8) e) ∧
      ((∃ i, j = A.toNat - i + 1 ∧ i ≤ A.toNat ∧ get (po 9) e' = .int .i64 (-1) ∧ get (po 10) e' = .int .i64 (i : Nat) ∧ nextK cs out 0 A.toNat = nextK cs out i (A.toNat - i)) ∨
       (j = 0 ∧ ∃ q k' : Nat, get (po 9) e' = .int .i64 (q : Int) ∧ get (po 10) e' = .int .i64 (k' : Int) ∧ nextK cs out 0 A.toNat = some q)))
    (fun x e' n' h'' => x = .exit 2 ∧ h'' = h' ∧ n0 ≤ n' ∧ get (po 9) e' = .int .i64 (match nextK cs out 0 A.toNat with | some q => (q : Int) | none => -1) ∧
      get (po 1) e' = get (po 1) e ∧ get (po 6) e' = get (po 6) e ∧ get (po 7) e' = get (po 7) e ∧ get (po 8) e' = get (po 8) e)
    ?_ (A.toNat + 1) ⟨rfl, Nat.le_refl _, ⟨rfl, rfl, rfl, rfl⟩, .inl ⟨0, rfl, Nat.zero_le _, g9, g10, rfl⟩⟩
  rintro j e' n' h'' ⟨rfl, p1, ⟨k1, k6, k7, k8⟩, hc⟩
  rw [g1] at k1
  rw [g7] at k7
  rw [g8] at k8
  rcases hc with ⟨i, rfl, hi, q9, q10, hN⟩ | ⟨rfl, q, k', q9, q10, hN⟩
  · by_cases hiA : i < A.toNat
    · rw [next_step hiA] at hN
      have hi2 : (i : Int) < A := by omega
      have ht := tk_get (out := out) (k := i) (by omega)
      unfold l24_1
      simp (disch := first | assumption | omega | (simp (disch := first | assumption | omega) only [sB, Nat.reduceAdd, Nat.reduceLT, Nat.reduceLeDiff, Nat.reduceEqDiff, Nat.reduceMul, ↓reduceIte]; done) | fail) only [sA, ↓reduceIte, Nat.reduceLT, Nat.reduceEqDiff, Nat.reduceAdd, Nat.reduceLeDiff, k1, k8, q9, q10, b8, hi2, ht, iaddr_ms]
      generalize hr : LX (cF Go.Proofs.Try.prog) (.loop l24_0) _ _ _ = r
      obtain ⟨x, e3, n3, h3, rfl, rfl, rfl, p3, l11, l12, l1, l6, l7, l8, l9, l10⟩ := ordChk A cs i n h hl hf hr (H.mono (by omega)) (S.mono (Hp.start (fun k hk => H.good k (by omega))) (by omega)) (!(out.contains i)) (by simp (disch := first | assumption | omega | (simp (disch := first | assumption | omega) only [sB, Nat.reduceAdd, Nat.reduceLT, Nat.reduceLeDiff, Nat.reduceEqDiff, Nat.reduceMul, ↓reduceIte]; done) | fail) only [sA, ↓reduceIte, Nat.reduceLT, Nat.reduceEqDiff, Nat.reduceAdd, Nat.reduceLeDiff, k7]) (by simp (disch := first | assumption | omega | (simp (disch := first | assumption | omega) only [sB, Nat.reduceAdd, Nat.reduceLT, Nat.reduceLeDiff, Nat.reduceEqDiff, Nat.reduceMul, ↓reduceIte]; done) | fail) only [sA, ↓reduceIte, Nat.reduceLT, Nat.reduceEqDiff, Nat.reduceAdd, Nat.reduceLeDiff, q10]) (by simp (disch := first | assumption | omega | (simp (disch := first | assumption | omega) only [sB, Nat.reduceAdd, Nat.reduceLT, Nat.reduceLeDiff, Nat.reduceEqDiff, Nat.reduceMul, ↓reduceIte]; done) | fail) only [sA, ↓reduceIte, Nat.reduceLT, Nat.reduceEqDiff, Nat.reduceAdd, Nat.reduceLeDiff]) (by simp (disch := first | assumption | omega | (simp (disch := first | assumption | omega) only [sB, Nat.reduceAdd, Nat.reduceLT, Nat.reduceLeDiff, Nat.reduceEqDiff, Nat.reduceMul, ↓reduceIte]; done) | fail) only [sA, ↓reduceIte, Nat.reduceLT, Nat.reduceEqDiff, Nat.reduceAdd, Nat.reduceLeDiff]) (by simp (disch := first | assumption | omega | (simp (disch := first | assumption | omega) only [sB, Nat.reduceAdd, Nat.reduceLT, Nat.reduceLeDiff, Nat.reduceEqDiff, Nat.reduceMul, ↓reduceIte]; done) | fail) only [sA, ↓reduceIte, Nat.reduceLT, Nat.reduceEqDiff, Nat.reduceAdd, Nat.reduceLeDiff])
      replace l1 : get (po 1) e3 = .int .i64 A := l1.trans (by simp (disch := first | assumption | omega | (simp (disch := first | assumption | omega) only [sB, Nat.reduceAdd, Nat.reduceLT, Nat.reduceLeDiff, Nat.reduceEqDiff, Nat.reduceMul, ↓reduceIte]; done) | fail) only [sA, ↓reduceIte, Nat.reduceLT, Nat.reduceEqDiff, Nat.reduceAdd, Nat.reduceLeDiff, k1])
      replace l6 := l6.trans (show _ = get (po 6) e by simp (disch := first | assumption | omega | (simp (disch := first | assumption | omega) only [sB, Nat.reduceAdd, Nat.reduceLT, Nat.reduceLeDiff, Nat.reduceEqDiff, Nat.reduceMul, ↓reduceIte]; done) | fail) only [sA, ↓reduceIte, Nat.reduceLT, Nat.reduceEqDiff, Nat.reduceAdd, Nat.reduceLeDiff, k6])
      replace l7 : get (po 7) e3 = dl := l7.trans (by simp (disch := first | assumption | omega | (simp (disch := first | assumption | omega) only [sB, Nat.reduceAdd, Nat.reduceLT, Nat.reduceLeDiff, Nat.reduceEqDiff, Nat.reduceMul, ↓reduceIte]; done) | fail) only [sA, ↓reduceIte, Nat.reduceLT, Nat.reduceEqDiff, Nat.reduceAdd, Nat.reduceLeDiff, k7])
      replace l8 : get (po 8) e3 = .ms 1 r8 0 101 false := l8.trans (by simp (disch := first | assumption | omega | (simp (disch := first | assumption | omega) only [sB, Nat.reduceAdd, Nat.reduceLT, Nat.reduceLeDiff, Nat.reduceEqDiff, Nat.reduceMul, ↓reduceIte]; done) | fail) only [sA, ↓reduceIte, Nat.reduceLT, Nat.reduceEqDiff, Nat.reduceAdd, Nat.reduceLeDiff, k8])
      replace l9 : get (po 9) e3 = .int .i64 (-1) := l9.trans (by simp (disch := first | assumption | omega | (simp (disch := first | assumption | omega) only [sB, Nat.reduceAdd, Nat.reduceLT, Nat.reduceLeDiff, Nat.reduceEqDiff, Nat.reduceMul, ↓reduceIte]; done) | fail) only [sA, ↓reduceIte, Nat.reduceLT, Nat.reduceEqDiff, Nat.reduceAdd, Nat.reduceLeDiff, q9])
      replace l10 : get (po 10) e3 = .int .i64 (i : Nat) := l10.trans (by simp (disch := first | assumption | omega | (simp (disch := first | assumption | omega) only [sB, Nat.reduceAdd, Nat.reduceLT, Nat.reduceLeDiff, Nat.reduceEqDiff, Nat.reduceMul, ↓reduceIte]; done) | fail) only [sA, ↓reduceIte, Nat.reduceLT, Nat.reduceEqDiff, Nat.reduceAdd, Nat.reduceLeDiff, q10])
      have hg : goodK cs out i = ((!(out.contains i) && cs.all (fun c => !(atC c i == 0))) && cs.any (fun c => atC c i == 2)) := by
        unfold goodK
        cases (out.contains i) <;> cases cs.all (fun c => !(atC c i == 0)) <;> cases cs.any (fun c => atC c i == 2) <;> rfl
      rw [hg] at hN
      generalize (!(out.contains i) && cs.all (fun c => !(atC c i == 0))) = b1 at l11 hN
      generalize cs.any (fun c => atC c i == 2) = b2 at l12 hN
      cases b1 with
      | false =>
        rw [Bool.false_and, if_neg (by decide)] at hN
        simp (disch := first | assumption | omega | (simp (disch := first | assumption | omega) only [sB, Nat.reduceAdd, Nat.reduceLT, Nat.reduceLeDiff, Nat.reduceEqDiff, Nat.reduceMul, ↓reduceIte]; done) | fail) only [sA, ↓reduceIte, Nat.reduceLT, Nat.reduceEqDiff, Nat.reduceAdd, Nat.reduceLeDiff, l11, l12, l10]
        exact ⟨_, _, _, _, rfl, .inl ⟨rfl, _, by omega, rfl, by omega, ⟨by simp (disch := first | assumption | omega | (simp (disch := first | assumption | omega) only [sB, Nat.reduceAdd, Nat.reduceLT, Nat.reduceLeDiff, Nat.reduceEqDiff, Nat.reduceMul, ↓reduceIte]; done) | fail) only [sA, ↓reduceIte, Nat.reduceLT, Nat.reduceEqDiff, Nat.reduceAdd, Nat.reduceLeDiff, l1, g1], by simp (disch := first | assumption | omega | (simp (disch := first | assumption | omega) only [sB, Nat.reduceAdd, Nat.reduceLT, Nat.reduceLeDiff, Nat.reduceEqDiff, Nat.reduceMul, ↓reduceIte]; done) | fail) only [sA, ↓reduceIte, Nat.reduceLT, Nat.reduceEqDiff, Nat.reduceAdd, Nat.reduceLeDiff, l6], by simp (disch := first | assumption | omega | (simp (disch := first | assumption | omega) only [sB, Nat.reduceAdd, Nat.reduceLT, Nat.reduceLeDiff, Nat.reduceEqDiff, Nat.reduceMul, ↓reduceIte]; done) | fail) only [sA, ↓reduceIte, Nat.reduceLT, Nat.reduceEqDiff, Nat.reduceAdd, Nat.reduceLeDiff, l7, g7], by simp (disch := first | assumption | omega | (simp (disch := first | assumption | omega) only [sB, Nat.reduceAdd, Nat.reduceLT, Nat.reduceLeDiff, Nat.reduceEqDiff, Nat.reduceMul, ↓reduceIte]; done) | fail) only [sA, ↓reduceIte, Nat.reduceLT, Nat.reduceEqDiff, Nat.reduceAdd, Nat.reduceLeDiff, l8, g8]⟩, .inl ⟨i + 1, rfl, by omega, by simp (disch := first | assumption | omega | (simp (disch := first | assumption | omega) only [sB, Nat.reduceAdd, Nat.reduceLT, Nat.reduceLeDiff, Nat.reduceEqDiff, Nat.reduceMul, ↓reduceIte]; done) | fail) only [sA, ↓reduceIte, Nat.reduceLT, Nat.reduceEqDiff, Nat.reduceAdd, Nat.reduceLeDiff, l9], by simp (disch := first | assumption | omega | (simp (disch := first | assumption | omega) only [sB, Nat.reduceAdd, Nat.reduceLT, Nat.reduceLeDiff, Nat.reduceEqDiff, Nat.reduceMul, ↓reduceIte]; done) | fail) only [sA, ↓reduceIte, Nat.reduceLT, Nat.reduceEqDiff, Nat.reduceAdd, Nat.reduceLeDiff], hN⟩⟩⟩
      | true =>
        cases b2 with
        | false =>
          rw [Bool.and_false, if_neg (by decide)] at hN
          simp (disch := first | assumption | omega | (simp (disch := first | assumption | omega) only [sB, Nat.reduceAdd, Nat.reduceLT, Nat.reduceLeDiff, Nat.reduceEqDiff, Nat.reduceMul, ↓reduceIte]; done) | fail) only [sA, ↓reduceIte, Nat.reduceLT, Nat.reduceEqDiff, Nat.reduceAdd, Nat.reduceLeDiff, l11, l12, l10]
          exact ⟨_, _, _, _, rfl, .inl ⟨rfl, _, by omega, rfl, by omega, ⟨by simp (disch := first | assumption | omega | (simp (disch := first | assumption | omega) only [sB, Nat.reduceAdd, Nat.reduceLT, Nat.reduceLeDiff, Nat.reduceEqDiff, Nat.reduceMul, ↓reduceIte]; done) | fail) only [sA, ↓reduceIte, Nat.reduceLT, Nat.reduceEqDiff, Nat.reduceAdd, Nat.reduceLeDiff, l1, g1], by simp (disch := first | assumption | omega | (simp (disch := first | assumption | omega) only [sB, Nat.reduceAdd, Nat.reduceLT, Nat.reduceLeDiff, Nat.reduceEqDiff, Nat.reduceMul, ↓reduceIte]; done) | fail) only [sA, ↓reduceIte, Nat.reduceLT, Nat.reduceEqDiff, Nat.reduceAdd, Nat.reduceLeDiff, l6], by simp (disch := first | assumption | omega | (simp (disch := first | assumption | omega) only [sB, Nat.reduceAdd, Nat.reduceLT, Nat.reduceLeDiff, Nat.reduceEqDiff, Nat.reduceMul, ↓reduceIte]; done) | fail) only [sA, ↓reduceIte, Nat.reduceLT, Nat.reduceEqDiff, Nat.reduceAdd, Nat.reduceLeDiff, l7, g7], by simp (disch := first | assumption | omega | (simp (disch := first | assumption | omega) only [sB, Nat.reduceAdd, Nat.reduceLT, Nat.reduceLeDiff, Nat.reduceEqDiff, Nat.reduceMul, ↓reduceIte]; done) | fail) only [sA, ↓reduceIte, Nat.reduceLT, Nat.reduceEqDiff, Nat.reduceAdd, Nat.reduceLeDiff, l8, g8]⟩, .inl ⟨i + 1, rfl, by omega, by simp (disch := first | assumption | omega | (simp (disch := first | assumption | omega) only [sB, Nat.reduceAdd, Nat.reduceLT, Nat.reduceLeDiff, Nat.reduceEqDiff, Nat.reduceMul, ↓reduceIte]; done) | fail) only [sA, ↓reduceIte, Nat.reduceLT, Nat.reduceEqDiff, Nat.reduceAdd, Nat.reduceLeDiff, l9], by simp (disch := first | assumption | omega | (simp (disch := first | assumption | omega) only [sB, Nat.reduceAdd, Nat.reduceLT, Nat.reduceLeDiff, Nat.reduceEqDiff, Nat.reduceMul, ↓reduceIte]; done) | fail) only [sA, ↓reduceIte, Nat.reduceLT, Nat.reduceEqDiff, Nat.reduceAdd, Nat.reduceLeDiff], hN⟩⟩⟩
        | true =>
          rw [Bool.and_self, if_pos rfl] at hN
          simp (disch := first | assumption | omega | (simp (disch := first | assumption | omega) only [sB, Nat.reduceAdd, Nat.reduceLT, Nat.reduceLeDiff, Nat.reduceEqDiff, Nat.reduceMul, ↓reduceIte]; done) | fail) only [sA, ↓reduceIte, Nat.reduceLT, Nat.reduceEqDiff, Nat.reduceAdd, Nat.reduceLeDiff, l11, l12, l10]
          exact ⟨_, _, _, _, rfl, .inl ⟨rfl, 0, by omega, rfl, by omega, ⟨by simp (disch := first | assumption | omega | (simp (disch := first | assumption | omega) only [sB, Nat.reduceAdd, Nat.reduceLT, Nat.reduceLeDiff, Nat.reduceEqDiff, Nat.reduceMul, ↓reduceIte]; done) | fail) only [sA, ↓reduceIte, Nat.reduceLT, Nat.reduceEqDiff, Nat.reduceAdd, Nat.reduceLeDiff, l1, g1], by simp (disch := first | assumption | omega | (simp (disch := first | assumption | omega) only [sB, Nat.reduceAdd, Nat.reduceLT, Nat.reduceLeDiff, Nat.reduceEqDiff, Nat.reduceMul, ↓reduceIte]; done) | fail) only [sA, ↓reduceIte, Nat.reduceLT, Nat.reduceEqDiff, Nat.reduceAdd, Nat.reduceLeDiff, l6], by simp (disch := first | assumption | omega | (simp (disch := first | assumption | omega) only [sB, Nat.reduceAdd, Nat.reduceLT, Nat.reduceLeDiff, Nat.reduceEqDiff, Nat.reduceMul, ↓reduceIte]; done) | fail) only [sA, ↓reduceIte, Nat.reduceLT, Nat.reduceEqDiff, Nat.reduceAdd, Nat.reduceLeDiff, l7, g7], by simp (disch := first | assumption | omega | (simp (disch := first | assumption | omega) only [sB, Nat.reduceAdd, Nat.reduceLT, Nat.reduceLeDiff, Nat.reduceEqDiff, Nat.reduceMul, ↓reduceIte]; done) | fail) only [sA, ↓reduceIte, Nat.reduceLT, Nat.reduceEqDiff, Nat.reduceAdd, Nat.reduceLeDiff, l8, g8]⟩, .inr ⟨rfl, i, i + 1, by simp (disch := first | assumption | omega | (simp (disch := first | assumption | omega) only [sB, Nat.reduceAdd, Nat.reduceLT, Nat.reduceLeDiff, Nat.reduceEqDiff, Nat.reduceMul, ↓reduceIte]; done) | fail) only [sA, ↓reduceIte, Nat.reduceLT, Nat.reduceEqDiff, Nat.reduceAdd, Nat.reduceLeDiff], by simp (disch := first | assumption | omega | (simp (disch := first | assumption | omega) only [sB, Nat.reduceAdd, Nat.reduceLT, Nat.reduceLeDiff, Nat.reduceEqDiff, Nat.reduceMul, ↓reduceIte]; done) | fail) only [sA, ↓reduceIte, Nat.reduceLT, Nat.reduceEqDiff, Nat.reduceAdd, Nat.reduceLeDiff], hN⟩⟩⟩
    · have hiA2 : i = A.toNat := by omega
      rw [hiA2, Nat.sub_self] at hN
      have hi2 : ¬ (i : Int) < A := by omega
      unfold l24_1
      simp (disch := first | assumption | omega | (simp (disch := first | assumption | omega) only [sB, Nat.reduceAdd, Nat.reduceLT, Nat.reduceLeDiff, Nat.reduceEqDiff, Nat.reduceMul, ↓reduceIte]; done) | fail) only [sA, ↓reduceIte, Nat.reduceLT, Nat.reduceEqDiff, Nat.reduceAdd, Nat.reduceLeDiff, k1, q9, q10, hi2]
      exact ⟨_, _, _, _, rfl, .inr ⟨by simp, rfl, rfl, by omega, by rw [hN]; simp (disch := first | assumption | omega | (simp (disch := first | assumption | omega) only [sB, Nat.reduceAdd, Nat.reduceLT, Nat.reduceLeDiff, Nat.reduceEqDiff, Nat.reduceMul, ↓reduceIte]; done) | fail) only [sA, ↓reduceIte, Nat.reduceLT, Nat.reduceEqDiff, Nat.reduceAdd, Nat.reduceLeDiff, q9]; rfl, by simp (disch := first | assumption | omega | (simp (disch := first | assumption | omega) only [sB, Nat.reduceAdd, Nat.reduceLT, Nat.reduceLeDiff, Nat.reduceEqDiff, Nat.reduceMul, ↓reduceIte]; done) | fail) only [sA, ↓reduceIte, Nat.reduceLT, Nat.reduceEqDiff, Nat.reduceAdd, Nat.reduceLeDiff, k1, g1], by simp (disch := first | assumption | omega | (simp (disch := first | assumption | omega) only [sB, Nat.reduceAdd, Nat.reduceLT, Nat.reduceLeDiff, Nat.reduceEqDiff, Nat.reduceMul, ↓reduceIte]; done) | fail) only [sA, ↓reduceIte, Nat.reduceLT, Nat.reduceEqDiff, Nat.reduceAdd, Nat.reduceLeDiff, k6], by simp (disch := first | assumption | omega | (simp (disch := first | assumption | omega) only [sB, Nat.reduceAdd, Nat.reduceLT, Nat.reduceLeDiff, Nat.reduceEqDiff, Nat.reduceMul, ↓reduceIte]; done) | fail) only [sA, ↓reduceIte, Nat.reduceLT, Nat.reduceEqDiff, Nat.reduceAdd, Nat.reduceLeDiff, k7, g7], by simp (disch := first | assumption | omega | (simp (disch := first | assumption | omega) only [sB, Nat.reduceAdd, Nat.reduceLT, Nat.reduceLeDiff, Nat.reduceEqDiff, Nat.reduceMul, ↓reduceIte]; done) | fail) only [sA, ↓reduceIte, Nat.reduceLT, Nat.reduceEqDiff, Nat.reduceAdd, Nat.reduceLeDiff, k8, g8]⟩⟩
  · rw [hN]
    have hq : ¬ (q : Int) < 0 := by omega
    unfold l24_1
    by_cases hk : (k' : Int) < A
    · simp (disch := first | assumption | omega | (simp (disch := first | assumption | omega) only [sB, Nat.reduceAdd, Nat.reduceLT, Nat.reduceLeDiff, Nat.reduceEqDiff, Nat.reduceMul, ↓reduceIte]; done) | fail) only [sA, ↓reduceIte, Nat.reduceLT, Nat.reduceEqDiff, Nat.reduceAdd, Nat.reduceLeDiff, k1, q9, q10, hk, hq]
      exact ⟨_, _, _, _, rfl, .inr ⟨by simp, rfl, rfl, by omega, by simp (disch := first | assumption | omega | (simp (disch := first | assumption | omega) only [sB, Nat.reduceAdd, Nat.reduceLT, Nat.reduceLeDiff, Nat.reduceEqDiff, Nat.reduceMul, ↓reduceIte]; done) | fail) only [sA, ↓reduceIte, Nat.reduceLT, Nat.reduceEqDiff, Nat.reduceAdd, Nat.reduceLeDiff, q9], by simp (disch := first | assumption | omega | (simp (disch := first | assumption | omega) only [sB, Nat.reduceAdd, Nat.reduceLT, Nat.reduceLeDiff, Nat.reduceEqDiff, Nat.reduceMul, ↓reduceIte]; done) | fail) only [sA, ↓reduceIte, Nat.reduceLT, Nat.reduceEqDiff, Nat.reduceAdd, Nat.reduceLeDiff, k1, g1], by simp (disch := first | assumption | omega | (simp (disch := first | assumption | omega) only [sB, Nat.reduceAdd, Nat.reduceLT, Nat.reduceLeDiff, Nat.reduceEqDiff, Nat.reduceMul, ↓reduceIte]; done) | fail) only [sA, ↓reduceIte, Nat.reduceLT, Nat.reduceEqDiff, Nat.reduceAdd, Nat.reduceLeDiff, k6], by simp (disch := first | assumption | omega | (simp (disch := first | assumption | omega) only [sB, Nat.reduceAdd, Nat.reduceLT, Nat.reduceLeDiff, Nat.reduceEqDiff, Nat.reduceMul, ↓reduceIte]; done) | fail) only [sA, ↓reduceIte, Nat.reduceLT, Nat.reduceEqDiff, Nat.reduceAdd, Nat.reduceLeDiff, k7, g7], by simp (disch := first | assumption | omega | (simp (disch := first | assumption | omega) only [sB, Nat.reduceAdd, Nat.reduceLT, Nat.reduceLeDiff, Nat.reduceEqDiff, Nat.reduceMul, ↓reduceIte]; done) | fail) only [sA, ↓reduceIte, Nat.reduceLT, Nat.reduceEqDiff, Nat.reduceAdd, Nat.reduceLeDiff, k8, g8]⟩⟩
    · simp (disch := first | assumption | omega | (simp (disch := first | assumption | omega) only [sB, Nat.reduceAdd, Nat.reduceLT, Nat.reduceLeDiff, Nat.reduceEqDiff, Nat.reduceMul, ↓reduceIte]; done) | fail) only [sA, ↓reduceIte, Nat.reduceLT, Nat.reduceEqDiff, Nat.reduceAdd, Nat.reduceLeDiff, k1, q9, q10, hk]
      exact ⟨_, _, _, _, rfl, .inr ⟨by simp, rfl, rfl, by omega, by simp (disch := first | assumption | omega | (simp (disch := first | assumption | omega) only [sB, Nat.reduceAdd, Nat.reduceLT, Nat.reduceLeDiff, Nat.reduceEqDiff, Nat.reduceMul, ↓reduceIte]; done) | fail) only [sA, ↓reduceIte, Nat.reduceLT, Nat.reduceEqDiff, Nat.reduceAdd, Nat.reduceLeDiff, q9], by simp (disch := first | assumption | omega | (simp (disch := first | assumption | omega) only [sB, Nat.reduceAdd, Nat.reduceLT, Nat.reduceLeDiff, Nat.reduceEqDiff, Nat.reduceMul, ↓reduceIte]; done) | fail) only [sA, ↓reduceIte, Nat.reduceLT, Nat.reduceEqDiff, Nat.reduceAdd, Nat.reduceLeDiff, k1, g1], by simp (disch := first | assumption | omega | (simp (disch := first | assumption | omega) only [sB, Nat.reduceAdd, Nat.reduceLT, Nat.reduceLeDiff, Nat.reduceEqDiff, Nat.reduceMul, ↓reduceIte]; done) | fail) only [sA, ↓reduceIte, Nat.reduceLT, Nat.reduceEqDiff, Nat.reduceAdd, Nat.reduceLeDiff, k6], by simp (disch := first | assumption | omega | (simp (disch := first | assumption | omega) only [sB, Nat.reduceAdd, Nat.reduceLT, Nat.reduceLeDiff, Nat.reduceEqDiff, Nat.reduceMul, ↓reduceIte]; done) | fail) only [sA, ↓reduceIte, Nat.reduceLT, Nat.reduceEqDiff, Nat.reduceAdd, Nat.reduceLeDiff, k7, g7], by simp (disch := first | assumption | omega | (simp (disch := first | assumption | omega) only [sB, Nat.reduceAdd, Nat.reduceLT, Nat.reduceLeDiff, Nat.reduceEqDiff, Nat.reduceMul, ↓reduceIte]; done) | fail) only [sA, ↓reduceIte, Nat.reduceLT, Nat.reduceEqDiff, Nat.reduceAdd, Nat.reduceLeDiff, k8, g8]⟩⟩

set_option maxHeartbeats 4000000 in
/-- the calls that are left -/
theorem ordF (cs : List Cal) (k n : Nat) (h : Hps) {dl : D} {ad : Nat → D} (hl : cs.length < 1000000000) (hf : Fewer 1000000000 cs) {n0 : Nat} {e : Tr} {h' : Hps} {r : Re} (hr : LX (cF Go.Proofs.Try.prog) (.loop l24_2) e n0 h' = r) (H : Hp n h n0 h') (S : Sv 2 encC n0 h' dl cs ad)
    (g7 : get (po 7) e = dl) (g9 : get (po 9) e = .int .i64 (k : Int)) (g15 : get (po 15) e = .nils) (g16 : get (po 16) e = .int .i64 0) :
    ∃ x e' n' h'', r = .ok x e' n' h'' ∧ x = .exit 6 ∧ Hp n h n' h'' ∧ n0 ≤ n' ∧ (∀ q, q < n0 → getO h'' q = getO h' q) ∧ (∃ d', Bld 2 encC n0 (cs.filter fun c => !(atC c k == 2)) h'' d' ∧ get (po 15) e' = d') ∧
      get (po 1) e' = get (po 1) e ∧ get (po 6) e' = get (po 6) e ∧ get (po 8) e' = get (po 8) e := by
  have s1 := S.len
  have s2 := S.idx
  have s3 := S.okD
  have hn0 := H.le
  refine loop_up hr cs.length
    (fun i e' n' h'' => Hp n h n' h'' ∧ n0 ≤ n' ∧ (∀ q, q < n0 → getO h'' q = getO h' q) ∧ (∃ d', Bld 2 encC n0 ((cs.take i).filter fun c => !(atC c k == 2)) h'' d' ∧ get (po 15) e' = d') ∧
      get (po 1) e' = get (po 1) e ∧ get (po 6) e' = get (po 6) e ∧ get (po 8) e' = get (po 8) e ∧ get (po 7) e' = dl ∧ get (po 9) e' = .int .i64 (k : Int) ∧ get (po 16) e' = .int .i64 (i : Nat))
    (fun x e' n' h'' => x = .exit 6 ∧ Hp n h n' h'' ∧ n0 ≤ n' ∧ (∀ q, q < n0 → getO h'' q = getO h' q) ∧ (∃ d', Bld 2 encC n0 (cs.filter fun c => !(atC c k == 2)) h'' d' ∧ get (po 15) e' = d') ∧
      get (po 1) e' = get (po 1) e ∧ get (po 6) e' = get (po 6) e ∧ get (po 8) e' = get (po 8) e)
    ?_ ?_ ⟨H, Nat.le_refl _, fun _ _ => rfl, ⟨.nils, .inl ⟨rfl, rfl⟩, g15⟩, rfl, rfl, rfl, g7, g9, g16⟩
  · rintro e' n' h'' ⟨H, p1, kp, ⟨d', B, q15⟩, k1, k6, k8, k7, k9, q16⟩
    rw [List.take_length] at B
    unfold l24_2
    simp (disch := first | assumption | omega | (simp (disch := first | assumption | omega) only [sB, Nat.reduceAdd, Nat.reduceLT, Nat.reduceLeDiff, Nat.reduceEqDiff, Nat.reduceMul, ↓reduceIte]; done) | fail) only [sA, ↓reduceIte, Nat.reduceLT, Nat.reduceEqDiff, Nat.reduceAdd, Nat.reduceLeDiff, k7, q16, s1, s3]
    exact ⟨_, _, _, _, rfl, by simp, rfl, H.mono (by omega), by omega, kp, ⟨d', B, by simp (disch := first | assumption | omega | (simp (disch := first | assumption | omega) only [sB, Nat.reduceAdd, Nat.reduceLT, Nat.reduceLeDiff, Nat.reduceEqDiff, Nat.reduceMul, ↓reduceIte]; done) | fail) only [sA, ↓reduceIte, Nat.reduceLT, Nat.reduceEqDiff, Nat.reduceAdd, Nat.reduceLeDiff, q15]⟩, by simp (disch := first | assumption | omega | (simp (disch := first | assumption | omega) only [sB, Nat.reduceAdd, Nat.reduceLT, Nat.reduceLeDiff, Nat.reduceEqDiff, Nat.reduceMul, ↓reduceIte]; done) | fail) only [sA, ↓reduceIte, Nat.reduceLT, Nat.reduceEqDiff, Nat.reduceAdd, Nat.reduceLeDiff, k1], by simp (disch := first | assumption | omega | (simp (disch := first | assumption | omega) only [sB, Nat.reduceAdd, Nat.reduceLT, Nat.reduceLeDiff, Nat.reduceEqDiff, Nat.reduceMul, ↓reduceIte]; done) | fail) only [sA, ↓reduceIte, Nat.reduceLT, Nat.reduceEqDiff, Nat.reduceAdd, Nat.reduceLeDiff, k6], by simp (disch := first | assumption | omega | (simp (disch := first | assumption | omega) only [sB, Nat.reduceAdd, Nat.reduceLT, Nat.reduceLeDiff, Nat.reduceEqDiff, Nat.reduceMul, ↓reduceIte]; done) | fail) only [sA, ↓reduceIte, Nat.reduceLT, Nat.reduceEqDiff, Nat.reduceAdd, Nat.reduceLeDiff, k8]⟩
  · rintro i e' n' h'' hi ⟨H, p1, kp, ⟨d', B, q15⟩, k1, k6, k8, k7, k9, q16⟩
    have c1 : ∀ m, n' ≤ m → callFn (LX (cF Go.Proofs.Try.prog)) m h'' [.agg [slD 3 encP cs[i].frm, slD 1 encI cs[i].args], .int .i64 (k : Int)] (cF Go.Proofs.Try.prog 60) = .ok (.int .i64 (atC cs[i] k)) m h'' := fun m hm => refAt _ k m h'' (hf _ (List.getElem_mem hi)) (H.good' (by omega))
    have s4i := fun m => S.ld h'' kp m i hi
    have hfs : (cs.take (i + 1)).filter (fun c => !(atC c k == 2)) = (cs.take i).filter (fun c => !(atC c k == 2)) ++ [cs[i]].filter (fun c => !(atC c k == 2)) := by
      rw [List.take_succ_eq_append_getElem hi, List.filter_append]
    have hlen : ((cs.take i).filter fun c => !(atC c k == 2)).length ≤ cs.length := Nat.le_trans (List.length_filter_le _ _) (by rw [List.length_take]; exact Nat.min_le_right _ _)
    have hok : okE 2 (.agg [slD 3 encP cs[i].frm, slD 1 encI cs[i].args]) = true := elemC.ok cs[i]
    obtain ⟨D', H', AA⟩ := app_bldx (b := 48) B H hn0 p1 lowC [cs[i]] (by show (_ + 1) * 48 ≤ _; omega)
    have A1 := fun m hm => (AA m hm).1
    have A2 := fun m hm => (AA m hm).2.1
    have A3 := fun m hm => (AA m hm).2.2.1
    have A4 := fun m hm => (AA m hm).2.2.2.1
    simp only [encC, List.map_cons, List.map_nil] at A1 s4i
    have hd1 := B.okD
    have hd3 : ∀ m m' h'', n' ≤ m → okD m' h'' (D' m) = .ok (D' m) m' h'' := fun m m' h'' hm => (A2 m hm).okD m' h''
    unfold l24_2
    by_cases ht : atC cs[i] k = 2
    · rw [hfs, show [cs[i]].filter (fun c => !(atC c k == 2)) = [] by rw [List.filter_cons_of_neg (by rw [ht]; decide)]; rfl, List.append_nil]
      simp (disch := first | assumption | omega | (simp (disch := first | assumption | omega) only [sB, Nat.reduceAdd, Nat.reduceLT, Nat.reduceLeDiff, Nat.reduceEqDiff, Nat.reduceMul, ↓reduceIte]; done) | fail) only [sA, ↓reduceIte, Nat.reduceLT, Nat.reduceEqDiff, Nat.reduceAdd, Nat.reduceLeDiff, k7, k9, q15, q16, s1, s2, s3, s4i, c1, ht]
      exact ⟨_, _, _, _, rfl, .inl ⟨rfl, H.mono (by omega), by omega, kp, ⟨d', B, by simp (disch := first | assumption | omega | (simp (disch := first | assumption | omega) only [sB, Nat.reduceAdd, Nat.reduceLT, Nat.reduceLeDiff, Nat.reduceEqDiff, Nat.reduceMul, ↓reduceIte]; done) | fail) only [sA, ↓reduceIte, Nat.reduceLT, Nat.reduceEqDiff, Nat.reduceAdd, Nat.reduceLeDiff, q15]⟩, by simp (disch := first | assumption | omega | (simp (disch := first | assumption | omega) only [sB, Nat.reduceAdd, Nat.reduceLT, Nat.reduceLeDiff, Nat.reduceEqDiff, Nat.reduceMul, ↓reduceIte]; done) | fail) only [sA, ↓reduceIte, Nat.reduceLT, Nat.reduceEqDiff, Nat.reduceAdd, Nat.reduceLeDiff, k1], by simp (disch := first | assumption | omega | (simp (disch := first | assumption | omega) only [sB, Nat.reduceAdd, Nat.reduceLT, Nat.reduceLeDiff, Nat.reduceEqDiff, Nat.reduceMul, ↓reduceIte]; done) | fail) only [sA, ↓reduceIte, Nat.reduceLT, Nat.reduceEqDiff, Nat.reduceAdd, Nat.reduceLeDiff, k6], by simp (disch := first | assumption | omega | (simp (disch := first | assumption | omega) only [sB, Nat.reduceAdd, Nat.reduceLT, Nat.reduceLeDiff, Nat.reduceEqDiff, Nat.reduceMul, ↓reduceIte]; done) | fail) only [sA, ↓reduceIte, Nat.reduceLT, Nat.reduceEqDiff, Nat.reduceAdd, Nat.reduceLeDiff, k8], by simp (disch := first | assumption | omega | (simp (disch := first | assumption | omega) only [sB, Nat.reduceAdd, Nat.reduceLT, Nat.reduceLeDiff, Nat.reduceEqDiff, Nat.reduceMul, ↓reduceIte]; done) | fail) only [sA, ↓reduceIte, Nat.reduceLT, Nat.reduceEqDiff, Nat.reduceAdd, Nat.reduceLeDiff, k7], by simp (disch := first | assumption | omega | (simp (disch := first | assumption | omega) only [sB, Nat.reduceAdd, Nat.reduceLT, Nat.reduceLeDiff, Nat.reduceEqDiff, Nat.reduceMul, ↓reduceIte]; done) | fail) only [sA, ↓reduceIte, Nat.reduceLT, Nat.reduceEqDiff, Nat.reduceAdd, Nat.reduceLeDiff, k9], by simp (disch := first | assumption | omega | (simp (disch := first | assumption | omega) only [sB, Nat.reduceAdd, Nat.reduceLT, Nat.reduceLeDiff, Nat.reduceEqDiff, Nat.reduceMul, ↓reduceIte]; done) | fail) only [sA, ↓reduceIte, Nat.reduceLT, Nat.reduceEqDiff, Nat.reduceAdd, Nat.reduceLeDiff]⟩⟩
    · rw [hfs, show [cs[i]].filter (fun c => !(atC c k == 2)) = [cs[i]] by rw [List.filter_cons_of_pos (by rw [at_eq, decide_eq_false ht]; rfl)]; rfl]
      simp (disch := first | assumption | omega | (simp (disch := first | assumption | omega) only [sB, Nat.reduceAdd, Nat.reduceLT, Nat.reduceLeDiff, Nat.reduceEqDiff, Nat.reduceMul, ↓reduceIte, hok]; done) | fail) only [sA, ↓reduceIte, Nat.reduceLT, Nat.reduceEqDiff, Nat.reduceAdd, Nat.reduceLeDiff, k7, k9, q15, q16, s1, s2, s3, s4i, c1, ht, A1, hd1, hd3, hok]
      exact ⟨_, _, _, _, rfl, .inl ⟨rfl, (A3 _ (by omega)).mono (by omega), by omega, fun q hq => (A4 _ (by omega) q hq).trans (kp q hq), ⟨_, A2 _ (by omega), by simp (disch := first | assumption | omega | (simp (disch := first | assumption | omega) only [sB, Nat.reduceAdd, Nat.reduceLT, Nat.reduceLeDiff, Nat.reduceEqDiff, Nat.reduceMul, ↓reduceIte]; done) | fail) only [sA, ↓reduceIte, Nat.reduceLT, Nat.reduceEqDiff, Nat.reduceAdd, Nat.reduceLeDiff]⟩, by simp (disch := first | assumption | omega | (simp (disch := first | assumption | omega) only [sB, Nat.reduceAdd, Nat.reduceLT, Nat.reduceLeDiff, Nat.reduceEqDiff, Nat.reduceMul, ↓reduceIte]; done) | fail) only [sA, ↓reduceIte, Nat.reduceLT, Nat.reduceEqDiff, Nat.reduceAdd, Nat.reduceLeDiff, k1], by simp (disch := first | assumption | omega | (simp (disch := first | assumption | omega) only [sB, Nat.reduceAdd, Nat.reduceLT, Nat.reduceLeDiff, Nat.reduceEqDiff, Nat.reduceMul, ↓reduceIte]; done) | fail) only [sA, ↓reduceIte, Nat.reduceLT, Nat.reduceEqDiff, Nat.reduceAdd, Nat.reduceLeDiff, k6], by simp (disch := first | assumption | omega | (simp (disch := first | assumption | omega) only [sB, Nat.reduceAdd, Nat.reduceLT, Nat.reduceLeDiff, Nat.reduceEqDiff, Nat.reduceMul, ↓reduceIte]; done) | fail) only [sA, ↓reduceIte, Nat.reduceLT, Nat.reduceEqDiff, Nat.reduceAdd, Nat.reduceLeDiff, k8], by simp (disch := first | assumption | omega | (simp (disch := first | assumption | omega) only [sB, Nat.reduceAdd, Nat.reduceLT, Nat.reduceLeDiff, Nat.reduceEqDiff, Nat.reduceMul, ↓reduceIte]; done) | fail) only [sA, ↓reduceIte, Nat.reduceLT, Nat.reduceEqDiff, Nat.reduceAdd, Nat.reduceLeDiff, k7], by simp (disch := first | assumption | omega | (simp (disch := first | assumption | omega) only [sB, Nat.reduceAdd, Nat.reduceLT, Nat.reduceLeDiff, Nat.reduceEqDiff, Nat.reduceMul, ↓reduceIte]; done) | fail) only [sA, ↓reduceIte, Nat.reduceLT, Nat.reduceEqDiff, Nat.reduceAdd, Nat.reduceLeDiff, k9], by simp (disch := first | assumption | omega | (simp (disch := first | assumption | omega) only [sB, Nat.reduceAdd, Nat.reduceLT, Nat.reduceLeDiff, Nat.reduceEqDiff, Nat.reduceMul, ↓reduceIte]; done) | fail) only [sA, ↓reduceIte, Nat.reduceLT, Nat.reduceEqDiff, Nat.reduceAdd, Nat.reduceLeDiff]⟩⟩

theorem ord_arity (cs : List Cal) (a : Int) : ordD cs a = ordR (ordL (if a > 100 then 0 else a).toNat cs.length cs []) := by
  unfold ordD
  by_cases h : 1 ≤ a ∧ a ≤ 100
  · rw [if_pos h, if_neg (by omega)]
  · rw [if_neg h]
    have e : (if a > 100 then 0 else a).toNat = 0 := by split <;> omega
    rw [e]
    cases cs with
    | nil => rfl
    | cons c t => rfl

set_option maxHeartbeats 4000000 in
/-- the reference's Order -/
theorem refOrder (s : Sl Cal) (a : Int) (n : Nat) (h : Hps) (hl : s.el.length < 1000000000) (hf : Fewer 1000000000 s.el) (hg : ∀ k, n ≤ k → GoodAt k h) :
    callFn (LX (cF Go.Proofs.Try.prog)) n h [slD 2 encC s, .int .i64 a] ((cF Go.Proofs.Try.prog) 24) = .ok (ordD s.el a) n h := by
  have hgn := hg n (Nat.le_refl _)
  rw [ord_arity]
  obtain ⟨D', H', AA⟩ := app_bldz (b := 48) (n1 := n) (.inl ⟨rfl, rfl⟩ : Bld 2 encC n [] h .nils) (Hp.start hg) (Nat.le_refl _) (Nat.le_refl _) lowC s.el (by simp; omega)
  have A1 := fun m hm => (AA m hm).1
  have A2 := fun m hm => (AA m hm).2.1
  have A3 := fun m hm => (AA m hm).2.2.1
  have hd3 : ∀ m m' h'', n ≤ m → okD m' h'' (D' m) = .ok (D' m) m' h'' := fun m m' h'' hm => (A2 m hm).okD m' h''
  have main : ∀ (A : Int), A ≤ 100 → ∀ {q8 n0 : Nat} {e : Tr} {h' : Hps} {dl : D} {r : Re}, LX (cF Go.Proofs.Try.prog) (.loop l24_3) e n0 h' = r → Hp n h n0 h' → n ≤ q8 → q8 < n0 → getO h' q8 = .row 1 (tk []) → Bld 2 encC n s.el h' dl → get (po 1) e = .int .i64 A → get (po 6) e = .nils → get (po 7) e = dl → get (po 8) e = .ms 1 q8 0 101 false →
      ∃ x e2 n2 h2, r = .ok x e2 n2 h2 ∧ Hp n h n2 h2 ∧ ((x = .exit 0 ∧ ∃ (out : List Nat) (dd : D), ordL A.toNat s.el.length s.el [] = some out ∧ Bld 1 encK (q8 + 1) out h2 dd ∧ get (po 6) e2 = dd) ∨ (x = .ret ∧ ordL A.toNat s.el.length s.el [] = none ∧ get (po 4) e2 = .nils ∧ get (po 5) e2 = .bool false)) := by
    intro A hA q8 n0 e h' dl r hr H hq8 hq8n b8 B7 g1 g6 g7 g8
    generalize hR : ordL A.toNat s.el.length s.el [] = R
    refine loop_at hr
      (fun f e n' h' => Hp n h n' h' ∧ q8 < n' ∧ get (po 1) e = .int .i64 A ∧ get (po 8) e = .ms 1 q8 0 101 false ∧
        ∃ (cs : List Cal) (out : List Nat) (dl dd : D), cs.length ≤ f ∧ f ≤ s.el.length ∧ out.length + f ≤ s.el.length ∧ Fewer 1000000000 cs ∧ ordL A.toNat f cs out = R ∧ getO h' q8 = .row 1 (tk out) ∧ Bld 2 encC n cs h' dl ∧ Bld 1 encK (q8 + 1) out h' dd ∧ get (po 6) e = dd ∧ get (po 7) e = dl)
      (fun x e2 n2 h2 => Hp n h n2 h2 ∧ ((x = .exit 0 ∧ ∃ (out : List Nat) (dd : D), R = some out ∧ Bld 1 encK (q8 + 1) out h2 dd ∧ get (po 6) e2 = dd) ∨ (x = .ret ∧ R = none ∧ get (po 4) e2 = .nils ∧ get (po 5) e2 = .bool false)))
      ?_ s.el.length ⟨H, hq8n, g1, g8, s.el, [], dl, .nils, Nat.le_refl _, Nat.le_refl _, by simp, hf, hR, b8, B7, .inl ⟨rfl, rfl⟩, g6, g7⟩
    clear g1 g6 g7 g8 B7 b8 hq8n H hr
    rintro f e n' h' ⟨H, hq8n, g1, g8, cs, out, dl, dd, hlt, hfl, hol, hfc, hS, b8, B7, B6, g6, g7⟩
    obtain ⟨ad, S⟩ := B7.sv (H.good n' (Nat.le_refl _)) aggC
    have s1 := S.len
    have s3 := S.okD
    have hn := H.le
    by_cases ht : cs.length = 0
    · have he : cs = [] := List.length_eq_zero_iff.1 ht
      unfold l24_3
      simp (disch := first | assumption | omega | (simp (disch := first | assumption | omega) only [sB, Nat.reduceAdd, Nat.reduceLT, Nat.reduceLeDiff, Nat.reduceEqDiff, Nat.reduceMul, ↓reduceIte]; done) | fail) only [sA, ↓reduceIte, Nat.reduceLT, Nat.reduceEqDiff, Nat.reduceAdd, Nat.reduceLeDiff, g7, s1, s3, ht]
      refine ⟨_, _, _, _, rfl, .inr ⟨by simp, H.mono (by omega), .inl ⟨rfl, out, dd, ?_, B6, by simp (disch := first | assumption | omega | (simp (disch := first | assumption | omega) only [sB, Nat.reduceAdd, Nat.reduceLT, Nat.reduceLeDiff, Nat.reduceEqDiff, Nat.reduceMul, ↓reduceIte]; done) | fail) only [sA, ↓reduceIte, Nat.reduceLT, Nat.reduceEqDiff, Nat.reduceAdd, Nat.reduceLeDiff, g6]⟩⟩⟩
      rw [← hS, he]
      cases f <;> rfl
    · obtain ⟨f, rfl⟩ : ∃ f', f = f' + 1 := ⟨f - 1, by omega⟩
      unfold ordL at hS
      rw [if_neg (fun h => ht (by rw [List.isEmpty_iff.1 h]; rfl))] at hS
      have hlt2 : cs.length > 0 := by omega
      unfold l24_3
      simp (disch := first | assumption | omega | (simp (disch := first | assumption | omega) only [sB, Nat.reduceAdd, Nat.reduceLT, Nat.reduceLeDiff, Nat.reduceEqDiff, Nat.reduceMul, ↓reduceIte]; done) | fail) only [sA, ↓reduceIte, Nat.reduceLT, Nat.reduceEqDiff, Nat.reduceAdd, Nat.reduceLeDiff, g7, s1, s3, hlt2]
      generalize hr : LX (cF Go.Proofs.Try.prog) (.loop l24_1) _ _ _ = r
      obtain ⟨x, e3, n3, h3, rfl, rfl, rfl, p3, l9, l1, l6, l7, l8⟩ := ordK A hA cs out n h (by omega) hfc hr (H.mono (by omega)) (S.mono (Hp.start (H.good' (Nat.le_refl _))) (by omega)) b8 (by simp (disch := first | assumption | omega | (simp (disch := first | assumption | omega) only [sB, Nat.reduceAdd, Nat.reduceLT, Nat.reduceLeDiff, Nat.reduceEqDiff, Nat.reduceMul, ↓reduceIte]; done) | fail) only [sA, ↓reduceIte, Nat.reduceLT, Nat.reduceEqDiff, Nat.reduceAdd, Nat.reduceLeDiff, g1]) (by simp (disch := first | assumption | omega | (simp (disch := first | assumption | omega) only [sB, Nat.reduceAdd, Nat.reduceLT, Nat.reduceLeDiff, Nat.reduceEqDiff, Nat.reduceMul, ↓reduceIte]; done) | fail) only [sA, ↓reduceIte, Nat.reduceLT, Nat.reduceEqDiff, Nat.reduceAdd, Nat.reduceLeDiff, g7]) (by simp (disch := first | assumption | omega | (simp (disch := first | assumption | omega) only [sB, Nat.reduceAdd, Nat.reduceLT, Nat.reduceLeDiff, Nat.reduceEqDiff, Nat.reduceMul, ↓reduceIte]; done) | fail) only [sA, ↓reduceIte, Nat.reduceLT, Nat.reduceEqDiff, Nat.reduceAdd, Nat.reduceLeDiff, g8]) (by simp (disch := first | assumption | omega | (simp (disch := first | assumption | omega) only [sB, Nat.reduceAdd, Nat.reduceLT, Nat.reduceLeDiff, Nat.reduceEqDiff, Nat.reduceMul, ↓reduceIte]; done) | fail) only [sA, ↓reduceIte, Nat.reduceLT, Nat.reduceEqDiff, Nat.reduceAdd, Nat.reduceLeDiff]) (by simp (disch := first | assumption | omega | (simp (disch := first | assumption | omega) only [sB, Nat.reduceAdd, Nat.reduceLT, Nat.reduceLeDiff, Nat.reduceEqDiff, Nat.reduceMul, ↓reduceIte]; done) | fail) only [sA, ↓reduceIte, Nat.reduceLT, Nat.reduceEqDiff, Nat.reduceAdd, Nat.reduceLeDiff])
      replace l1 : get (po 1) e3 = .int .i64 A := l1.trans (by simp (disch := first | assumption | omega | (simp (disch := first | assumption | omega) only [sB, Nat.reduceAdd, Nat.reduceLT, Nat.reduceLeDiff, Nat.reduceEqDiff, Nat.reduceMul, ↓reduceIte]; done) | fail) only [sA, ↓reduceIte, Nat.reduceLT, Nat.reduceEqDiff, Nat.reduceAdd, Nat.reduceLeDiff, g1])
      replace l6 : get (po 6) e3 = dd := l6.trans (by simp (disch := first | assumption | omega | (simp (disch := first | assumption | omega) only [sB, Nat.reduceAdd, Nat.reduceLT, Nat.reduceLeDiff, Nat.reduceEqDiff, Nat.reduceMul, ↓reduceIte]; done) | fail) only [sA, ↓reduceIte, Nat.reduceLT, Nat.reduceEqDiff, Nat.reduceAdd, Nat.reduceLeDiff, g6])
      replace l7 : get (po 7) e3 = dl := l7.trans (by simp (disch := first | assumption | omega | (simp (disch := first | assumption | omega) only [sB, Nat.reduceAdd, Nat.reduceLT, Nat.reduceLeDiff, Nat.reduceEqDiff, Nat.reduceMul, ↓reduceIte]; done) | fail) only [sA, ↓reduceIte, Nat.reduceLT, Nat.reduceEqDiff, Nat.reduceAdd, Nat.reduceLeDiff, g7])
      replace l8 : get (po 8) e3 = .ms 1 q8 0 101 false := l8.trans (by simp (disch := first | assumption | omega | (simp (disch := first | assumption | omega) only [sB, Nat.reduceAdd, Nat.reduceLT, Nat.reduceLeDiff, Nat.reduceEqDiff, Nat.reduceMul, ↓reduceIte]; done) | fail) only [sA, ↓reduceIte, Nat.reduceLT, Nat.reduceEqDiff, Nat.reduceAdd, Nat.reduceLeDiff, g8])
      cases hi : nextK cs out 0 A.toNat with
      | none =>
        rw [hi] at hS l9
        replace l9 : get (po 9) e3 = .int .i64 (-1) := l9
        simp (disch := first | assumption | omega | (simp (disch := first | assumption | omega) only [sB, Nat.reduceAdd, Nat.reduceLT, Nat.reduceLeDiff, Nat.reduceEqDiff, Nat.reduceMul, ↓reduceIte]; done) | fail) only [sA, ↓reduceIte, Nat.reduceLT, Nat.reduceEqDiff, Nat.reduceAdd, Nat.reduceLeDiff, l9]
        exact ⟨_, _, _, _, rfl, .inr ⟨by simp, H.mono (by omega), .inr ⟨rfl, hS.symm, by simp (disch := first | assumption | omega | (simp (disch := first | assumption | omega) only [sB, Nat.reduceAdd, Nat.reduceLT, Nat.reduceLeDiff, Nat.reduceEqDiff, Nat.reduceMul, ↓reduceIte]; done) | fail) only [sA, ↓reduceIte, Nat.reduceLT, Nat.reduceEqDiff, Nat.reduceAdd, Nat.reduceLeDiff], by simp (disch := first | assumption | omega | (simp (disch := first | assumption | omega) only [sB, Nat.reduceAdd, Nat.reduceLT, Nat.reduceLeDiff, Nat.reduceEqDiff, Nat.reduceMul, ↓reduceIte]; done) | fail) only [sA, ↓reduceIte, Nat.reduceLT, Nat.reduceEqDiff, Nat.reduceAdd, Nat.reduceLeDiff]⟩⟩⟩
      | some i =>
        rw [hi] at hS l9
        replace l9 : get (po 9) e3 = .int .i64 (i : Int) := l9
        replace hS : ordL A.toNat f (cs.filter fun c => !(atC c i == 2)) (out ++ [i]) = R := hS
        obtain ⟨hgi, _, hiA⟩ := next_good _ _ _ _ _ hi
        obtain ⟨hio, hfl2⟩ := good_some hgi
        have hi101 : i < 101 := by omega
        have hi0 : ¬ (i : Int) < 0 := by omega
        have hst : ∀ m, storeR false 1 q8 i 0 (.bool true) m h3 (.row 1 (tk out)) = .ok .junk m (setO h3 q8 (.row 1 (tk (out ++ [i])))) := fun m => st_tk hi101
        generalize hh4 : setO h3 q8 (.row 1 (tk (out ++ [i]))) = h4 at hst
        have H4 : Hp n h n' h4 := by rw [← hh4]; exact H.set hq8 (fun q _ => low_tk _ q)
        have k4 : ∀ q, q ≠ q8 → getO h4 q = getO h3 q := fun q hq => by rw [← hh4, getO_setO _ _ _ _ (by rw [b8]; exact fun h => by cases h), if_neg hq]
        have b48 : getO h4 q8 = .row 1 (tk (out ++ [i])) := by rw [← hh4, getO_setO _ _ _ _ (by rw [b8]; exact fun h => by cases h), if_pos rfl]
        have B46 : Bld 1 encK (q8 + 1) out h4 dd := B6.via k4 (B6.off' (by omega))
        have B47 : Bld 2 encC n cs h4 dl := B7.via k4 (B7.off_kind b8 (by decide))
        obtain ⟨E', G', EE⟩ := app_bldz (b := 8) B46 H4 (by omega) (by omega) lowK [i] (by simp; omega)
        have E1 := fun m hm => (EE m hm).1
        have E2 := fun m hm => (EE m hm).2.1
        have E3 := fun m hm => (EE m hm).2.2.1
        have E4 := fun m hm => (EE m hm).2.2.2.1
        simp only [encK, List.map_cons, List.map_nil] at E1
        have hd1 := B46.okD
        have hd5 : ∀ m m' h'', n' ≤ m → okD m' h'' (E' m) = .ok (E' m) m' h'' := fun m m' h'' hm => (E2 m hm).okD m' h''
        simp (disch := first | assumption | omega | (simp (disch := first | assumption | omega) only [sB, Nat.reduceAdd, Nat.reduceLT, Nat.reduceLeDiff, Nat.reduceEqDiff, Nat.reduceMul, ↓reduceIte]; done) | fail) only [sA, ↓reduceIte, Nat.reduceLT, Nat.reduceEqDiff, Nat.reduceAdd, Nat.reduceLeDiff, l1, l6, l7, l8, l9, hi0, b8, hst, E1, hd1, hd5, iaddr_ms]
        have B57 : Bld 2 encC n cs (G' (n3 + 9)) dl := B46.other B47 (by decide) (H4.good n' (Nat.le_refl _)) (fun q hq ho => (E4 (n3 + 9) (by omega) q hq ho).1)
        have b58 : getO (G' (n3 + 9)) q8 = .row 1 (tk (out ++ [i])) := (E4 (n3 + 9) (by omega) q8 hq8n (B46.off' (by omega))).1.trans b48
        have H5 := E3 (n3 + 9) (by omega)
        have B56 := E2 (n3 + 9) (by omega)
        obtain ⟨ad5, S5⟩ := B57.sv (H5.good _ (Nat.le_refl _)) aggC
        generalize hr : LX (cF Go.Proofs.Try.prog) (.loop l24_2) _ _ _ = r
        obtain ⟨x, e6, n6, h6, rfl, rfl, H6, p6, kp, ⟨d15, B15, g15⟩, m1, m6, m8⟩ := ordF cs i n h (by omega) hfc hr (H5.mono (by omega)) (S5.mono (Hp.start (H5.good' (Nat.le_refl _))) (by omega)) (by simp (disch := first | assumption | omega | (simp (disch := first | assumption | omega) only [sB, Nat.reduceAdd, Nat.reduceLT, Nat.reduceLeDiff, Nat.reduceEqDiff, Nat.reduceMul, ↓reduceIte]; done) | fail) only [sA, ↓reduceIte, Nat.reduceLT, Nat.reduceEqDiff, Nat.reduceAdd, Nat.reduceLeDiff, l7]) (by simp (disch := first | assumption | omega | (simp (disch := first | assumption | omega) only [sB, Nat.reduceAdd, Nat.reduceLT, Nat.reduceLeDiff, Nat.reduceEqDiff, Nat.reduceMul, ↓reduceIte]; done) | fail) only [sA, ↓reduceIte, Nat.reduceLT, Nat.reduceEqDiff, Nat.reduceAdd, Nat.reduceLeDiff, l9]) (by simp (disch := first | assumption | omega | (simp (disch := first | assumption | omega) only [sB, Nat.reduceAdd, Nat.reduceLT, Nat.reduceLeDiff, Nat.reduceEqDiff, Nat.reduceMul, ↓reduceIte]; done) | fail) only [sA, ↓reduceIte, Nat.reduceLT, Nat.reduceEqDiff, Nat.reduceAdd, Nat.reduceLeDiff]) (by simp (disch := first | assumption | omega | (simp (disch := first | assumption | omega) only [sB, Nat.reduceAdd, Nat.reduceLT, Nat.reduceLeDiff, Nat.reduceEqDiff, Nat.reduceMul, ↓reduceIte]; done) | fail) only [sA, ↓reduceIte, Nat.reduceLT, Nat.reduceEqDiff, Nat.reduceAdd, Nat.reduceLeDiff])
        replace m1 : get (po 1) e6 = .int .i64 A := m1.trans (by simp (disch := first | assumption | omega | (simp (disch := first | assumption | omega) only [sB, Nat.reduceAdd, Nat.reduceLT, Nat.reduceLeDiff, Nat.reduceEqDiff, Nat.reduceMul, ↓reduceIte]; done) | fail) only [sA, ↓reduceIte, Nat.reduceLT, Nat.reduceEqDiff, Nat.reduceAdd, Nat.reduceLeDiff, l1])
        replace m6 : get (po 6) e6 = E' (n3 + 9) := m6.trans (by simp (disch := first | assumption | omega | (simp (disch := first | assumption | omega) only [sB, Nat.reduceAdd, Nat.reduceLT, Nat.reduceLeDiff, Nat.reduceEqDiff, Nat.reduceMul, ↓reduceIte]; done) | fail) only [sA, ↓reduceIte, Nat.reduceLT, Nat.reduceEqDiff, Nat.reduceAdd, Nat.reduceLeDiff])
        replace m8 : get (po 8) e6 = .ms 1 q8 0 101 false := m8.trans (by simp (disch := first | assumption | omega | (simp (disch := first | assumption | omega) only [sB, Nat.reduceAdd, Nat.reduceLT, Nat.reduceLeDiff, Nat.reduceEqDiff, Nat.reduceMul, ↓reduceIte]; done) | fail) only [sA, ↓reduceIte, Nat.reduceLT, Nat.reduceEqDiff, Nat.reduceAdd, Nat.reduceLeDiff, l8])
        have hd15 := B15.okD
        simp (disch := first | assumption | omega | (simp (disch := first | assumption | omega) only [sB, Nat.reduceAdd, Nat.reduceLT, Nat.reduceLeDiff, Nat.reduceEqDiff, Nat.reduceMul, ↓reduceIte]; done) | fail) only [sA, ↓reduceIte, Nat.reduceLT, Nat.reduceEqDiff, Nat.reduceAdd, Nat.reduceLeDiff, g15, hd15]
        refine ⟨_, _, _, _, rfl, .inl ⟨rfl, f, by omega, H6.mono (by omega), by omega, by simp (disch := first | assumption | omega | (simp (disch := first | assumption | omega) only [sB, Nat.reduceAdd, Nat.reduceLT, Nat.reduceLeDiff, Nat.reduceEqDiff, Nat.reduceMul, ↓reduceIte]; done) | fail) only [sA, ↓reduceIte, Nat.reduceLT, Nat.reduceEqDiff, Nat.reduceAdd, Nat.reduceLeDiff, m1], by simp (disch := first | assumption | omega | (simp (disch := first | assumption | omega) only [sB, Nat.reduceAdd, Nat.reduceLT, Nat.reduceLeDiff, Nat.reduceEqDiff, Nat.reduceMul, ↓reduceIte]; done) | fail) only [sA, ↓reduceIte, Nat.reduceLT, Nat.reduceEqDiff, Nat.reduceAdd, Nat.reduceLeDiff, m8], _, out ++ [i], d15, _, ?_, by omega, by rw [List.length_append, List.length_singleton]; omega, fun c hc => hfc c (List.mem_filter.1 hc).1, hS, (kp _ (by omega)).trans b58, B15.wide (by omega), B56.below (H5.good _ (Nat.le_refl _)) (fun q hq => kp q (by omega)), by simp (disch := first | assumption | omega | (simp (disch := first | assumption | omega) only [sB, Nat.reduceAdd, Nat.reduceLT, Nat.reduceLeDiff, Nat.reduceEqDiff, Nat.reduceMul, ↓reduceIte]; done) | fail) only [sA, ↓reduceIte, Nat.reduceLT, Nat.reduceEqDiff, Nat.reduceAdd, Nat.reduceLeDiff, m6], by simp (disch := first | assumption | omega | (simp (disch := first | assumption | omega) only [sB, Nat.reduceAdd, Nat.reduceLT, Nat.reduceLeDiff, Nat.reduceEqDiff, Nat.reduceMul, ↓reduceIte]; done) | fail) only [sA, ↓reduceIte, Nat.reduceLT, Nat.reduceEqDiff, Nat.reduceAdd, Nat.reduceLeDiff]⟩⟩
        omega
  have fin : ∀ (A : Int) {x : Ex} {e2 : Tr} {n2 : Nat} {h2 : Hps} {q8 : Nat}, n ≤ q8 → Hp n h n2 h2 → ((x = .exit 0 ∧ ∃ (out : List Nat) (dd : D), ordL A.toNat s.el.length s.el [] = some out ∧ Bld 1 encK (q8 + 1) out h2 dd ∧ get (po 6) e2 = dd) ∨ (x = .ret ∧ ordL A.toNat s.el.length s.el [] = none ∧ get (po 4) e2 = .nils ∧ get (po 5) e2 = .bool false)) →
      (x = .exit 0 ∧ ∃ dd, (∀ m h', okD m h' dd = .ok dd m h') ∧ get (po 6) e2 = dd ∧ ∀ m, n2 ≤ m → finishD n m h2 (.tup [dd, .bool true]) = .ok (ordR (ordL A.toNat s.el.length s.el [])) n h) ∨ (x = .ret ∧ get (po 4) e2 = .nils ∧ get (po 5) e2 = .bool false ∧ ∀ m, n2 ≤ m → finishD n m h2 (.tup [.nils, .bool false]) = .ok (ordR (ordL A.toNat s.el.length s.el [])) n h) := by
    rintro A x e2 n2 h2 q8 hq8 H2 (⟨rfl, out, dd, e, B, g6⟩ | ⟨rfl, e, g4, g5⟩)
    · refine .inl ⟨rfl, dd, B.okD, g6, fun m hm => ?_⟩
      have F4 := finishD_fz (n := m) (Fz.tup (.cons (Fz.bld elemK (B.wide (show n ≤ q8 + 1 by omega))) (.cons ((Fz.of1 (d := .bool true) rfl).mono (show 1 ≤ 3 by omega)) .nil))) (by omega) (H2.mono (m := m) hm).leak
      rw [F4, e, H2.drop]
      rfl
    · refine .inr ⟨rfl, g4, g5, fun m hm => ?_⟩
      rw [e]
      exact finish_flat (d := .tup [.nils, .bool false]) rfl (H2.mono (m := m) hm)
  rw [f24_eq]; unfold c24; rw [callFn_eq (by rfl)]
  by_cases ha : a > 100
  · rw [if_pos ha]
    simp (disch := first | assumption | omega | (simp (disch := first | assumption | omega) only [sB, Nat.reduceAdd, Nat.reduceLT, Nat.reduceLeDiff, Nat.reduceEqDiff, Nat.reduceMul, ↓reduceIte]; done) | fail) only [sA, ↓reduceIte, Nat.reduceLT, Nat.reduceEqDiff, Nat.reduceAdd, Nat.reduceLeDiff, A1, hd3, mk_tk, ha]
    generalize hr : LX (cF Go.Proofs.Try.prog) (.loop l24_3) _ _ _ = r
    obtain ⟨x, e2, n2, h2, rfl, H2, q⟩ := main 0 (by omega) (q8 := n + 6) hr (((A3 (n + 4) (by omega)).cons (r := n + 6) (m := n + 7) (by omega) (by omega) (fun q _ => low_tk _ q)).mono (by omega)) (by omega) (by omega) (by simp (disch := first | assumption | omega | (simp (disch := first | assumption | omega) only [sB, Nat.reduceAdd, Nat.reduceLT, Nat.reduceLeDiff, Nat.reduceEqDiff, Nat.reduceMul, ↓reduceIte]; done) | fail) only [sA, ↓reduceIte, Nat.reduceLT, Nat.reduceEqDiff, Nat.reduceAdd, Nat.reduceLeDiff]) ((A2 (n + 4) (by omega)).cons ((A3 (n + 4) (by omega)).good _ (Nat.le_refl _)) (by omega)) (by simp (disch := first | assumption | omega | (simp (disch := first | assumption | omega) only [sB, Nat.reduceAdd, Nat.reduceLT, Nat.reduceLeDiff, Nat.reduceEqDiff, Nat.reduceMul, ↓reduceIte]; done) | fail) only [sA, ↓reduceIte, Nat.reduceLT, Nat.reduceEqDiff, Nat.reduceAdd, Nat.reduceLeDiff]) (by simp (disch := first | assumption | omega | (simp (disch := first | assumption | omega) only [sB, Nat.reduceAdd, Nat.reduceLT, Nat.reduceLeDiff, Nat.reduceEqDiff, Nat.reduceMul, ↓reduceIte]; done) | fail) only [sA, ↓reduceIte, Nat.reduceLT, Nat.reduceEqDiff, Nat.reduceAdd, Nat.reduceLeDiff]) (by simp (disch := first | assumption | omega | (simp (disch := first | assumption | omega) only [sB, Nat.reduceAdd, Nat.reduceLT, Nat.reduceLeDiff, Nat.reduceEqDiff, Nat.reduceMul, ↓reduceIte]; done) | fail) only [sA, ↓reduceIte, Nat.reduceLT, Nat.reduceEqDiff, Nat.reduceAdd, Nat.reduceLeDiff]) (by simp (disch := first | assumption | omega | (simp (disch := first | assumption | omega) only [sB, Nat.reduceAdd, Nat.reduceLT, Nat.reduceLeDiff, Nat.reduceEqDiff, Nat.reduceMul, ↓reduceIte]; done) | fail) only [sA, ↓reduceIte, Nat.reduceLT, Nat.reduceEqDiff, Nat.reduceAdd, Nat.reduceLeDiff])
    rcases fin 0 (q8 := n + 6) (by omega) H2 q with ⟨rfl, dd, hd, g6, F4⟩ | ⟨rfl, g4, g5, F4⟩
    · simp (disch := first | assumption | omega | (simp (disch := first | assumption | omega) only [sB, Nat.reduceAdd, Nat.reduceLT, Nat.reduceLeDiff, Nat.reduceEqDiff, Nat.reduceMul, ↓reduceIte]; done) | fail) only [sA, ↓reduceIte, Nat.reduceLT, Nat.reduceEqDiff, Nat.reduceAdd, Nat.reduceLeDiff, g6, hd, F4]
    · simp (disch := first | assumption | omega | (simp (disch := first | assumption | omega) only [sB, Nat.reduceAdd, Nat.reduceLT, Nat.reduceLeDiff, Nat.reduceEqDiff, Nat.reduceMul, ↓reduceIte]; done) | fail) only [sA, ↓reduceIte, Nat.reduceLT, Nat.reduceEqDiff, Nat.reduceAdd, Nat.reduceLeDiff, g4, g5, F4]
  · rw [if_neg ha]
    simp (disch := first | assumption | omega | (simp (disch := first | assumption | omega) only [sB, Nat.reduceAdd, Nat.reduceLT, Nat.reduceLeDiff, Nat.reduceEqDiff, Nat.reduceMul, ↓reduceIte]; done) | fail) only [sA, ↓reduceIte, Nat.reduceLT, Nat.reduceEqDiff, Nat.reduceAdd, Nat.reduceLeDiff, A1, hd3, mk_tk, ha]
    generalize hr : LX (cF Go.Proofs.Try.prog) (.loop l24_3) _ _ _ = r
    obtain ⟨x, e2, n2, h2, rfl, H2, q⟩ := main a (by omega) (q8 := n + 6) hr (((A3 (n + 4) (by omega)).cons (r := n + 6) (m := n + 7) (by omega) (by omega) (fun q _ => low_tk _ q)).mono (by omega)) (by omega) (by omega) (by simp (disch := first | assumption | omega | (simp (disch := first | assumption | omega) only [sB, Nat.reduceAdd, Nat.reduceLT, Nat.reduceLeDiff, Nat.reduceEqDiff, Nat.reduceMul, ↓reduceIte]; done) | fail) only [sA, ↓reduceIte, Nat.reduceLT, Nat.reduceEqDiff, Nat.reduceAdd, Nat.reduceLeDiff]) ((A2 (n + 4) (by omega)).cons ((A3 (n + 4) (by omega)).good _ (Nat.le_refl _)) (by omega)) (by simp (disch := first | assumption | omega | (simp (disch := first | assumption | omega) only [sB, Nat.reduceAdd, Nat.reduceLT, Nat.reduceLeDiff, Nat.reduceEqDiff, Nat.reduceMul, ↓reduceIte]; done) | fail) only [sA, ↓reduceIte, Nat.reduceLT, Nat.reduceEqDiff, Nat.reduceAdd, Nat.reduceLeDiff]) (by simp (disch := first | assumption | omega | (simp (disch := first | assumption | omega) only [sB, Nat.reduceAdd, Nat.reduceLT, Nat.reduceLeDiff, Nat.reduceEqDiff, Nat.reduceMul, ↓reduceIte]; done) | fail) only [sA, ↓reduceIte, Nat.reduceLT, Nat.reduceEqDiff, Nat.reduceAdd, Nat.reduceLeDiff]) (by simp (disch := first | assumption | omega | (simp (disch := first | assumption | omega) only [sB, Nat.reduceAdd, Nat.reduceLT, Nat.reduceLeDiff, Nat.reduceEqDiff, Nat.reduceMul, ↓reduceIte]; done) | fail) only [sA, ↓reduceIte, Nat.reduceLT, Nat.reduceEqDiff, Nat.reduceAdd, Nat.reduceLeDiff]) (by simp (disch := first | assumption | omega | (simp (disch := first | assumption | omega) only [sB, Nat.reduceAdd, Nat.reduceLT, Nat.reduceLeDiff, Nat.reduceEqDiff, Nat.reduceMul, ↓reduceIte]; done) | fail) only [sA, ↓reduceIte, Nat.reduceLT, Nat.reduceEqDiff, Nat.reduceAdd, Nat.reduceLeDiff])
    rcases fin a (q8 := n + 6) (by omega) H2 q with ⟨rfl, dd, hd, g6, F4⟩ | ⟨rfl, g4, g5, F4⟩
    · simp (disch := first | assumption | omega | (simp (disch := first | assumption | omega) only [sB, Nat.reduceAdd, Nat.reduceLT, Nat.reduceLeDiff, Nat.reduceEqDiff, Nat.reduceMul, ↓reduceIte]; done) | fail) only [sA, ↓reduceIte, Nat.reduceLT, Nat.reduceEqDiff, Nat.reduceAdd, Nat.reduceLeDiff, g6, hd, F4]
    · simp (disch := first | assumption | omega | (simp (disch := first | assumption | omega) only [sB, Nat.reduceAdd, Nat.reduceLT, Nat.reduceLeDiff, Nat.reduceEqDiff, Nat.reduceMul, ↓reduceIte]; done) | fail) only [sA, ↓reduceIte, Nat.reduceLT, Nat.reduceEqDiff, Nat.reduceAdd, Nat.reduceLeDiff, g4, g5, F4]
end Go.Proofs.Ytjagmfgjlfkmgaa
