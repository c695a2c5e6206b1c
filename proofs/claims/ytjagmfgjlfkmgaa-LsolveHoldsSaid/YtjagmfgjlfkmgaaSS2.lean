/- Merged: SX SY SZ SO. -/
import Derived.Test.YtjagmfgjlfkmgaaSS1

/- Heaps that are told by their objects alone; the program's walk over what must grow. No condition but lengths. -/
set_option linter.unusedSimpArgs false
set_option linter.unusedVariables false
namespace Go.Proofs.Ytjagmfgjlfkmgaa
open Go

/-- a call in a draw whose last argument is a row of numbers -/
theorem sub_row {call : CallF} {m q r len : Nat} {h : Hps} {v : List Int} {x N : Int} {s : Sl LV} (hg : getO h r = .row 1 (v.map encN)) (hr : r ≤ m)
    (hc : call (m + 1) [(r, .row 1 (v.map encN))] (.fn q [] []) [(D.agg [.int .i64 (N), slD 2 encV (s)]), .ms 1 r 0 len false] = .ok (.int .i64 x) (m + 1) [(r, .row 1 (v.map encN))]) :
    subC call (reachC h [(D.agg [.int .i64 (N), slD 2 encV (s)]), .ms 1 r 0 len false] (.fn q [] [])) m h (.fn q [] []) [(D.agg [.int .i64 (N), slD 2 encV (s)]), .ms 1 r 0 len false] = .ok (.int .i64 x) (m + 1) ((r, .row 1 (v.map encN)) :: delO h r) := by
  have hm : memN r [r] = true := by rw [memN_cons, decide_eq_true rfl]; rfl
  have e1 : rdOb (.row 1 (v.map encN)) = [] := by
    show rfL (rd 20) (v.map encN) = []
    induction v with
    | nil => rfl
    | cons a t ih =>
      have : ∀ t : List Int, rfL (rd 20) (t.map encN) = [] := fun t => by
        induction t with
        | nil => rfl
        | cons a t ih => rw [List.map_cons, rfL_cons, ih]; rfl
      exact this _
  have e2 : ∀ p : Nat → Bool, inO p (.row 1 (v.map encN)) = true := fun p => by
    show allL (inD p 20) (v.map encN) = true
    rw [allL_eq, List.all_eq_true]
    intro d hd
    obtain ⟨a, _, rfl⟩ := List.mem_map.1 hd
    rfl
  have e3 : ∀ p : Nat → Bool, inD p 19 (slD 2 encV s) = true := fun p => by
    rcases slD_isSl 2 encV s with ⟨h1, _⟩ | ⟨_, _, h1⟩ <;> rw [h1] <;> rfl
  have hR : reachC h [(D.agg [.int .i64 (N), slD 2 encV (s)]), .ms 1 r 0 len false] (.fn q [] []) = [r] := by
    show reach h (4095 + 1) (appN (appN (appN [] (appN (rd 19 (slD 2 encV s)) [])) (appN [r] [])) []) [] = [r]
    rw [show rd 19 (slD 2 encV s) = [] from by rcases slD_isSl 2 encV s with ⟨h1, _⟩ | ⟨_, _, h1⟩ <;> rw [h1] <;> rfl]
    show reach h (4094 + 1) (appN (rdOb (getO h r)) []) [r] = [r]
    rw [hg, e1]
    rfl
  rw [hR]
  show pureC [r] m h _ _ (call (m + 1) [(r, getO h r)] _ _) = _
  rw [hg, hc]
  have f1 : allN (fun r' => Nat.ble r' m) [r] = true := by
    show Bool.and (Nat.ble r m) true = true
    rw [ble_iff, decide_eq_true hr]; rfl
  have f2 : ∀ p : Nat → Bool, inD p 20 (.fn q [] []) = true := fun p => rfl
  have f3 : allL (inD (fun r' => memN r' [r]) 20) [(D.agg [.int .i64 (N), slD 2 encV (s)]), .ms 1 r 0 len false] = true := by
    rw [allL_eq, List.all_cons, List.all_cons, List.all_nil]
    show (allL (inD (fun r' => memN r' [r]) 19) [.int .i64 N, slD 2 encV s] && (memN r [r] && true)) = true
    rw [allL_eq, List.all_cons, List.all_cons, List.all_nil, hm, e3]
    rfl
  have f4 : inH (fun r' => memN r' [r]) (subH [r] h) = true := by
    show Bool.and (memN r [r]) (Bool.and (inO (fun r' => memN r' [r]) (getO h r)) true) = true
    rw [hg, hm, e2]; rfl
  have f5 : inH (ofR [r] (m + 1)) [(r, .row 1 (v.map encN))] = true := by
    show Bool.and (Bool.or (Nat.ble (m + 1) r) (memN r [r])) (Bool.and (inO (ofR [r] (m + 1)) (.row 1 (v.map encN))) true) = true
    rw [hm, e2]
    cases Nat.ble (m + 1) r <;> rfl
  show ifR (Bool.and (allN (fun r' => Nat.ble r' m) [r]) (Bool.and (inD (fun r' => memN r' [r]) 20 (.fn q [] [])) (Bool.and (allL (inD (fun r' => memN r' [r]) 20) [(D.agg [.int .i64 (N), slD 2 encV (s)]), .ms 1 r 0 len false]) (Bool.and (inH (fun r' => memN r' [r]) (subH [r] h)) (Bool.and true (inH (ofR [r] (m + 1)) [(r, .row 1 (v.map encN))])))))) (.ok _ _ _) = _
  rw [f1, f2, f3, f4, f5]
  rfl

/-- all objects lie below n, none that lies below k (b or more) leads to k or beyond, and those below lo lead nowhere -/
def tame (lo b r : Nat) (o : Ob) : Prop := (∀ k, b ≤ k → r < k → lowO k o) ∧ (r < lo → ∀ k, lowO k o)
def Wh (lo b n : Nat) (h : Hps) : Prop := b ≤ n ∧ ∀ p, p ∈ h → p.1 < n ∧ tame lo b p.1 p.2
theorem Wh.good {lo b n : Nat} {h : Hps} (H : Wh lo b n h) : ∀ k, n ≤ k → GoodAt k h := fun k hk p hp => ⟨by have := (H.2 p hp).1; omega, (H.2 p hp).2.1 k (by have := H.1; omega) (by have := (H.2 p hp).1; omega)⟩
theorem Wh.mono {lo b n m : Nat} {h : Hps} (H : Wh lo b n h) (hm : n ≤ m) : Wh lo b m h := ⟨by have := H.1; omega, fun p hp => ⟨by have := (H.2 p hp).1; omega, (H.2 p hp).2⟩⟩
theorem Wh.cons {lo b n m r : Nat} {h : Hps} {o : Ob} (H : Wh lo b n h) (hr : r < m) (hm : n ≤ m) (ho : tame lo b r o) : Wh lo b m ((r, o) :: h) := ⟨by have := H.1; omega, fun p hp => by
  rcases List.mem_cons.1 hp with rfl | hp
  · exact ⟨hr, ho⟩
  · exact (H.mono hm).2 p hp⟩
theorem Wh.tail {lo b n : Nat} {h : Hps} {x : Nat × Ob} (H : Wh lo b n (x :: h)) : Wh lo b n h := ⟨H.1, fun p hp => H.2 p (by simp [hp])⟩
theorem Wh.set {lo b n r : Nat} {h : Hps} {o : Ob} (H : Wh lo b n h) (ho : tame lo b r o) : Wh lo b n (setO h r o) := by
  obtain ⟨hbn, H⟩ := H
  refine ⟨hbn, ?_⟩
  induction h with
  | nil => intro p hp; cases hp
  | cons x t ih =>
    obtain ⟨q, y⟩ := x
    have h1 := H (q, y) (by simp)
    have h2 := ih (fun p hp => H p (by simp [hp]))
    by_cases e : q = r
    · subst e
      rw [setO_hd]
      intro p hp
      rcases List.mem_cons.1 hp with rfl | hp
      · exact ⟨h1.1, ho⟩
      · exact H p (by simp [hp])
    · rw [setO_tl e]
      intro p hp
      rcases List.mem_cons.1 hp with rfl | hp
      · exact h1
      · exact h2 p hp
theorem Wh.del {lo b n r : Nat} {h : Hps} (H : Wh lo b n h) : Wh lo b n (delO h r) := by
  obtain ⟨hbn, H⟩ := H
  refine ⟨hbn, ?_⟩
  induction h with
  | nil => intro p hp; cases hp
  | cons x t ih =>
    obtain ⟨q, y⟩ := x
    have h2 := ih (fun p hp => H p (by simp [hp]))
    by_cases e : q = r
    · subst e; rw [delO_hd]; exact h2
    · rw [delO_tl e]
      intro p hp
      rcases List.mem_cons.1 hp with rfl | hp
      · exact H _ (by simp)
      · exact h2 p hp
theorem Wh.drop {lo b n n0 : Nat} {h : Hps} (H : Wh lo b n h) (hb : b ≤ n0) : Wh lo b n0 (dropFrom n0 h) := by
  obtain ⟨_, H⟩ := H
  refine ⟨hb, ?_⟩
  induction h with
  | nil => intro p hp; cases hp
  | cons x t ih =>
    obtain ⟨q, y⟩ := x
    have h2 := ih (fun p hp => H p (by simp [hp]))
    by_cases e : q < n0
    · rw [drop_old e]
      intro p hp
      rcases List.mem_cons.1 hp with rfl | hp
      · exact ⟨e, (H _ (by simp)).2⟩
      · exact h2 p hp
    · rw [drop_new (by omega)]; exact h2
theorem Wh.leak {lo b n n0 : Nat} {h : Hps} (H : Wh lo b n h) (hb : b ≤ n0) : Go.Proofs.Ytjagmfgjlfkmgaa.leak n0 h = false := by
  obtain ⟨_, H⟩ := H
  induction h with
  | nil => rfl
  | cons x t ih =>
    obtain ⟨q, y⟩ := x
    have h2 := ih (fun p hp => H p (by simp [hp]))
    by_cases e : q < n0
    · rw [leak_old e, h2, Bool.or_false]
      exact (H (q, y) (by simp)).2.1 n0 hb e
    · rw [leak_new (by omega)]; exact h2
theorem Wh.fin {lo b n n0 : Nat} {h : Hps} {d : D} (H : Wh lo b n h) (hb : b ≤ n0) (hd : flat d = true) (m : Nat) : finishD n0 m h d = .ok d n0 (dropFrom n0 h) := finishD_flat hd (H.leak hb)
theorem tame_flat {lo b r k : Nat} {d : D} (hd : flat d = true) : tame lo b r (.row k [d]) := ⟨fun q _ _ => lowO_one (low_flat hd), fun _ q => lowO_one (low_flat hd)⟩
theorem tame_row {lo b r : Nat} {v : List Int} : tame lo b r (.row 1 (v.map encN)) := ⟨fun q _ _ => row_low v q, fun _ q => row_low v q⟩
theorem tame_ms {lo b r k q o l : Nat} {f : Bool} (hq : q < b) (hr : lo ≤ r) : tame lo b r (.row k [.ms k q o l f]) := ⟨fun m hm _ => lowO_one (low_ms (by omega)), fun h => by omega⟩
theorem tame_loop {lo b r : Nat} {env : Tr} {ps : List Po} {x y : DCode} {j : Jp} (hr : lo ≤ r) : tame lo b r (.loop r env ps x y j) := ⟨fun m _ hm => by
  show Nat.blt m r = false
  rw [blt_iff, decide_eq_false (by omega)], fun h => by omega⟩
/-- at the function's own begin -/
theorem Wh.leak0 {lo b n : Nat} {h : Hps} (H : Wh lo b n h) : Go.Proofs.Ytjagmfgjlfkmgaa.leak lo h = false := by
  obtain ⟨_, H⟩ := H
  induction h with
  | nil => rfl
  | cons x t ih =>
    obtain ⟨q, y⟩ := x
    have h2 := ih (fun p hp => H p (by simp [hp]))
    by_cases e : q < lo
    · rw [leak_old e, h2, Bool.or_false]
      exact (H (q, y) (by simp)).2.2 e lo
    · rw [leak_new (by omega)]; exact h2
/-- the row is laid to the front: nothing else changes -/
theorem front_get {h : Hps} {q r : Nat} {o : Ob} (hg : getO h q = o) : getO ((q, o) :: delO h q) r = getO h r := by
  by_cases e : q = r
  · subst e; rw [getO_hd, hg]
  · rw [getO_tl e, getO_delO, if_neg (fun h => e h.symm)]
theorem Wh.front {lo b n q : Nat} {h : Hps} {v : List Int} (H : Wh lo b n h) (hq : q < n) : Wh lo b n ((q, .row 1 (v.map encN)) :: delO h q) := H.del.cons hq (Nat.le_refl _) tame_row

/-- a limit as the rounds take it -/
def qlm (x : QLim) : Lm := ⟨x.a, if x.on < 0 then none else some x.on.toNat, x.less⟩
theorem qlm_qm {x : SLim} (h : x.b.lev.right = true) : qlm (qm x) = lm x := by
  have hr := (right_iff.1 (right_norm h)).2.2
  unfold qm lm
  cases e : x.b.lev.norm.v with
  | nil => rfl
  | cons p t =>
    have := (hr p (by rw [e]; simp)).1.1
    unfold qlm
    show Lm.mk _ (if p.1 < 0 then none else some p.1.toNat) _ = _
    rw [if_neg (by omega)]
def SeenQ (n : Nat) (l : List QLim) : Prop := ∀ x, x ∈ l → x.a.right = true ∧ (0 ≤ x.less ∧ x.less ≤ 1000) ∧ -1 ≤ x.on ∧ x.on < n
theorem seen_q {n : Nat} {s : List SLim} (h : Seen n s) : SeenQ n (s.map qm) := by
  intro y hy
  obtain ⟨x, hx, rfl⟩ := List.mem_map.1 hy
  obtain ⟨h1, h2, h3, _⟩ := h x hx
  have hr := right_iff.1 (right_norm h2)
  unfold qm
  cases e : x.b.lev.norm.v with
  | nil => exact ⟨right_norm h1, ⟨hr.1.1, hr.1.2⟩, by show (-1 : Int) ≤ -1; omega, by show (-1 : Int) < n; omega⟩
  | cons p t =>
    have hp : p ∈ x.b.lev.norm.v := by rw [e]; simp
    have h4 := ((bnd_le (l := x.b.lev) (x := n)).1 h3).2 p ((nfL_nf x.b.lev.v).sub p hp)
    have h5 := hr.2.2 p hp
    exact ⟨right_norm h1, ⟨h5.2.1, h5.2.2⟩, by show (-1 : Int) ≤ p.1; omega, by show p.1 < (n : Int); omega⟩

/-- what the walk looks at: the limits and the numbers, each in a box; the numbers -/
def Sees (b2 b3 q na : Nat) (qs : List QLim) (v : List Int) (h : Hps) : Prop := getO h b2 = .row 1 [slD 4 encQ (Sl.app qs)] ∧ getO h b3 = .row 1 [.ms 1 q 0 na false] ∧ getO h q = .row 1 (v.map encN)
theorem evalQ {n na q : Nat} {h : Hps} {v : List Int} {N : Int} {s : Sl LV} (hg : ∀ k, n ≤ k → GoodAt k h) (hb : getO h q = .row 1 (v.map encN)) (hv : Nums na v) (hna : na ≤ 1000) (hq : q < n) (hs : s.el.length ≤ 64) (hr : Lev.right ⟨N, s.el⟩ = true) :
    callFn (LX (cFk kS Go.Proofs.Try.prog)) n h [(D.agg [.int .i64 (N), slD 2 encV (s)]), .ms 1 q 0 na false] (cFk kS Go.Proofs.Try.prog 49) = .ok (.int .i64 (lval ⟨N, s.el⟩ v)) n h := by
  have hlow := nums_low hv
  have := lvEvalS n h hg N s (by omega) (.ms 1 q 0 na false) v _ (row_si hb hv.1 hq) (fun x hx => by have := hlow x hx; omega) (by rw [hv.1]; omega)
  rw [eval_right hr] at this
  exact this
theorem lval_low {na : Nat} {a : Lev} {v : List Int} (hv : Nums na v) (hr : a.right = true) : 0 ≤ lval a v ∧ lval a v ≤ 1001000 := by
  have hlow := nums_low hv
  have := eval_low (a := a) (v := v) (fun x hx => by have := hlow x hx; omega)
  rw [eval_right hr] at this
  exact this
/-- the same in a draw -/
theorem evalD {m na q : Nat} {h : Hps} {v : List Int} {N : Int} {s : Sl LV} (hb : getO h q = .row 1 (v.map encN)) (hv : Nums na v) (hna : na ≤ 1000) (hq : q ≤ m) (hs : s.el.length ≤ 64) (hr : Lev.right ⟨N, s.el⟩ = true) :
    subC (callX (cFk kS Go.Proofs.Try.prog) (LX (cFk kS Go.Proofs.Try.prog))) (reachC h [(D.agg [.int .i64 (N), slD 2 encV (s)]), .ms 1 q 0 na false] (.fn 49 [] [])) m h (.fn 49 [] []) [(D.agg [.int .i64 (N), slD 2 encV (s)]), .ms 1 q 0 na false] = .ok (.int .i64 (lval ⟨N, s.el⟩ v)) (m + 1) ((q, .row 1 (v.map encN)) :: delO h q) :=
  sub_row hb hq (by
    rw [callX_fn]
    exact evalQ (fun k hk => good_cons.2 ⟨by omega, row_low v k, good_nil⟩) getO_hd hv hna (by omega) hs hr)
theorem lvGrown (n : Nat) (h : Hps) (q na : Nat) (qs : List QLim) (hq : q < n)   : callFn (LX (cFk kS Go.Proofs.Try.prog)) n h [slD 4 encQ (Sl.app qs), .ms 1 q 0 na false] (cFk kS Go.Proofs.Try.prog 67) = .ok (.fn 80 [] [.ptr n 0 0, .ptr (n + 1) 0 0]) (n + 5) ((n + 1, .row 1 [.ms 1 q 0 na false]) :: (n, .row 1 [slD 4 encQ (Sl.app qs)]) :: h) := by
  rw [f67_eq]; unfold c67; rw [callFn_eq (by rfl)]
  simp (disch := first | assumption | omega | (simp (disch := first | assumption | omega) only [sB, Nat.reduceAdd, Nat.reduceLT, Nat.reduceLeDiff, Nat.reduceEqDiff, Nat.reduceMul, ↓reduceIte]; done) | fail) only [sA, ↓reduceIte, Nat.reduceLT, Nat.reduceEqDiff, Nat.reduceAdd, Nat.reduceLeDiff]
  have hfr : frz ((n + 1, .row 1 [.ms 1 q 0 na false]) :: (n, .row 1 [slD 4 encQ (Sl.app qs)]) :: h) n 60 (.fn 80 [] [.ptr n 0 0, .ptr (n + 1) 0 0]) =
      .fn 80 [] [frz ((n + 1, .row 1 [.ms 1 q 0 na false]) :: (n, .row 1 [slD 4 encQ (Sl.app qs)]) :: h) n 59 (.ptr n 0 0), .junk] := by
    show D.fn 80 [] [frz ((n + 1, .row 1 [.ms 1 q 0 na false]) :: (n, .row 1 [slD 4 encQ (Sl.app qs)]) :: h) n 59 (.ptr n 0 0), Bool.rec (motive := fun _ => D) (frzP (frz ((n + 1, .row 1 [.ms 1 q 0 na false]) :: (n, .row 1 [slD 4 encQ (Sl.app qs)]) :: h) n 58) 0 0 (getO ((n + 1, .row 1 [.ms 1 q 0 na false]) :: (n, .row 1 [slD 4 encQ (Sl.app qs)]) :: h) (n + 1))) (.ptr (n + 1) 0 0) (Nat.blt (n + 1) n)] = _
    rw [blt_iff, decide_eq_false (by omega), getO_hd]
    show D.fn 80 [] [_, frzP (frz ((n + 1, .row 1 [.ms 1 q 0 na false]) :: (n, .row 1 [slD 4 encQ (Sl.app qs)]) :: h) n 58) 0 0 (.row 1 [.ms 1 q 0 na false])] = _
    rw [frzP_row]
    have e : frz ((n + 1, .row 1 [.ms 1 q 0 na false]) :: (n, .row 1 [slD 4 encQ (Sl.app qs)]) :: h) n 58 (.ms 1 q 0 na false) = .ms 1 q 0 na false := by
      show Bool.rec (motive := fun _ => D) _ (.ms 1 q 0 na false) (Nat.blt q n) = _
      rw [blt_iff, decide_eq_true hq]
    show D.fn 80 [] [_, frzI 1 0 (frz ((n + 1, .row 1 [.ms 1 q 0 na false]) :: (n, .row 1 [slD 4 encQ (Sl.app qs)]) :: h) n 58 (.ms 1 q 0 na false))] = _
    rw [e]
    rfl
  show Bool.rec (motive := fun _ => Rd) (finishF n (n + 5) _ _ (frz ((n + 1, .row 1 [.ms 1 q 0 na false]) :: (n, .row 1 [slD 4 encQ (Sl.app qs)]) :: h) n 60 (.fn 80 [] [.ptr n 0 0, .ptr (n + 1) 0 0]))) (.ok _ (n + 5) _) (Bool.or (hasP n 20 (.fn 80 [] [.ptr n 0 0, .ptr (n + 1) 0 0])) (leak n ((n + 1, .row 1 [.ms 1 q 0 na false]) :: (n, .row 1 [slD 4 encQ (Sl.app qs)]) :: h))) = _
  cases (Bool.or (hasP n 20 (.fn 80 [] [.ptr n 0 0, .ptr (n + 1) 0 0])) (leak n ((n + 1, .row 1 [.ms 1 q 0 na false]) :: (n, .row 1 [slD 4 encQ (Sl.app qs)]) :: h))) with
  | true => rfl
  | false =>
    show finishF n (n + 5) _ _ (frz ((n + 1, .row 1 [.ms 1 q 0 na false]) :: (n, .row 1 [slD 4 encQ (Sl.app qs)]) :: h) n 60 (.fn 80 [] [.ptr n 0 0, .ptr (n + 1) 0 0])) = _
    rw [hfr]
    show Bool.rec (motive := fun _ => Rd) (.ok _ n _) (.ok _ (n + 5) _) (Bool.or (hasJ 20 (.fn 80 [] [frz ((n + 1, .row 1 [.ms 1 q 0 na false]) :: (n, .row 1 [slD 4 encQ (Sl.app qs)]) :: h) n 59 (.ptr n 0 0), .junk])) _) = _
    have hj : hasJ 20 (.fn 80 [] [frz ((n + 1, .row 1 [.ms 1 q 0 na false]) :: (n, .row 1 [slD 4 encQ (Sl.app qs)]) :: h) n 59 (.ptr n 0 0), .junk]) = true := by
      generalize frz ((n + 1, .row 1 [.ms 1 q 0 na false]) :: (n, .row 1 [slD 4 encQ (Sl.app qs)]) :: h) n 59 (.ptr n 0 0) = Y
      show Bool.not (Bool.and true (allL (fun d => Bool.not (hasJ 19 d)) [Y, .junk])) = true
      rw [allL_eq, List.all_cons, List.all_cons, show hasJ 19 .junk = true from rfl]
      cases hasJ 19 Y <;> rfl
    rw [hj]
    rfl

/-- the object of a loop over a function -/
def isLoop (nr : Nat) (env : Tr) (x y : DCode) (j : Jp) (h : Hps) : Prop := getO h nr = .loop nr env [po 43, po 44] x y j
/-- what one round does: a number is set, or an error is told -/
def SolRnd (lo b q na nr r4 r5 r10 : Nat) (K : List (Nat × Ob)) (big : Bool) (env : Tr) (x y : DCode) : Prop :=
  ∀ (m : Nat) (g : Hps) (v : List Int) (on : Nat) (k : Int), nr < m → Wh lo b m g → (∀ p, p ∈ K → getO g p.1 = p.2) → getO g q = .row 1 (v.map encN) → v.length = na → on < na → (∃ t, getO g r10 = .row 1 [.bool t]) → getO g r4 = .row 1 [.nils] → getO g r5 = .row 1 [.int .i64 0] →
    ∃ m' g' j, LX (cFk kS Go.Proofs.Try.prog) x (putT (po 44) (.int .i64 k) (putT (po 43) (.int .i64 (on : Int)) env)) m g = .ok .normal (putT (po 12) (.int .i64 k) (putT (po 11) (.int .i64 (on : Int)) (putT (po 44) (.int .i64 k) (putT (po 43) (.int .i64 (on : Int)) env)))) (m + 2) g ∧
      (∃ e2, LX (cFk kS Go.Proofs.Try.prog) y (putT (po 12) (.int .i64 k) (putT (po 11) (.int .i64 (on : Int)) (putT (po 44) (.int .i64 k) (putT (po 43) (.int .i64 (on : Int)) env)))) (m + 2) g = .ok j e2 m' g') ∧ m ≤ m' ∧ Wh lo b m' g' ∧ (∀ r, r ≠ q → r ≠ r4 → r ≠ r5 → r ≠ r10 → getO g' r = getO g r) ∧
      ((j = .normal ∧ ¬ (1000 < k ∨ big = true) ∧ getO g' q = .row 1 ((v.set on k).map encN) ∧ getO g' r10 = .row 1 [.bool false] ∧ getO g' r4 = .row 1 [.nils] ∧ getO g' r5 = .row 1 [.int .i64 0]) ∨ (j = .ret ∧ (1000 < k ∨ big = true) ∧ getO g' r4 = .row 1 [.nils] ∧ getO g' r5 = .row 1 [.int .i64 52]))
theorem yield_run {lo b q na nr r4 r5 r10 : Nat} {K : List (Nat × Ob)} {big : Bool} {env : Tr} {x y : DCode} (R : SolRnd lo b q na nr r4 r5 r10 K big env x y) {m : Nat} {g : Hps} {v : List Int} {on : Nat} {k : Int} (hm : nr < m) (hlo : lo ≤ nr) (hK : ∀ p, p ∈ K → p.1 ≠ nr ∧ getO g p.1 = p.2) (hd : q ≠ nr ∧ r4 ≠ nr ∧ r5 ≠ nr ∧ r10 ≠ nr) (H : Wh lo b m g) (hl : isLoop nr env x y .none g) (hq : getO g q = .row 1 (v.map encN)) (hv : v.length = na) (hon : on < na)
    (h10 : ∃ t, getO g r10 = .row 1 [.bool t]) (h4 : getO g r4 = .row 1 [.nils]) (h5 : getO g r5 = .row 1 [.int .i64 0]) :
    ∃ m' g' t, callX (cFk kS Go.Proofs.Try.prog) (LX (cFk kS Go.Proofs.Try.prog)) m g (.yld nr) [.int .i64 (on : Int), .int .i64 k] = .ok (.bool t) m' g' ∧ m ≤ m' ∧ Wh lo b m' g' ∧ (∀ r, r ≠ q → r ≠ r4 → r ≠ r5 → r ≠ r10 → r ≠ nr → getO g' r = getO g r) ∧
      ((t = true ∧ ¬ (1000 < k ∨ big = true) ∧ isLoop nr env x y .none g' ∧ getO g' q = .row 1 ((v.set on k).map encN) ∧ getO g' r10 = .row 1 [.bool false] ∧ getO g' r4 = .row 1 [.nils] ∧ getO g' r5 = .row 1 [.int .i64 0]) ∨ (t = false ∧ (1000 < k ∨ big = true) ∧ isLoop nr env x y .ret g' ∧ getO g' r4 = .row 1 [.nils] ∧ getO g' r5 = .row 1 [.int .i64 52])) := by
  have hk : ∀ r, r ≠ nr → getO (delO g nr) r = getO g r := fun r hr => by rw [getO_delO, if_neg hr]
  obtain ⟨m', g', j, h1, ⟨e2, h2⟩, h3, h4', h5', h6⟩ := R m (delO g nr) v on k hm H.del (fun p hp => by rw [hk _ (hK p hp).1]; exact (hK p hp).2) (by rw [hk _ hd.1]; exact hq) hv hon (by rw [hk _ hd.2.2.2]; exact h10) (by rw [hk _ hd.2.1]; exact h4) (by rw [hk _ hd.2.2.1]; exact h5)
  have key : callX (cFk kS Go.Proofs.Try.prog) (LX (cFk kS Go.Proofs.Try.prog)) m g (.yld nr) [.int .i64 (on : Int), .int .i64 k] = endRound nr nr env [po 43, po 44] x y m' g' j := by
    show round (LX (cFk kS Go.Proofs.Try.prog)) nr m g [.int .i64 (on : Int), .int .i64 k] (getO g nr) = _
    rw [show getO g nr = _ from hl]
    show midRound (LX (cFk kS Go.Proofs.Try.prog)) nr nr env [po 43, po 44] x y (LX (cFk kS Go.Proofs.Try.prog) x (putT (po 44) (.int .i64 k) (putT (po 43) (.int .i64 (on : Int)) env)) m (delO g nr)) = _
    rw [h1]
    show lastRound nr nr env [po 43, po 44] x y (LX (cFk kS Go.Proofs.Try.prog) y _ (m + 2) (delO g nr)) = _
    rw [h2]
    rfl
  have hc : ∀ (o : Ob) r, r ≠ nr → getO ((nr, o) :: g') r = getO g' r := fun o r hr => getO_tl (fun e => hr e.symm)
  rw [key]
  rcases h6 with ⟨rfl, hb, c1, c2, c3, c4⟩ | ⟨rfl, hb, c3, c4⟩
  · refine ⟨m', (nr, .loop nr env [po 43, po 44] x y .none) :: g', true, rfl, h3, h4'.cons (by omega) (Nat.le_refl _) (tame_loop hlo), fun r a1 a2 a3 a4 a5 => by rw [hc _ r a5, h5' r a1 a2 a3 a4, hk r a5], .inl ⟨rfl, hb, getO_hd, ?_, ?_, ?_, ?_⟩⟩
    · rw [hc _ _ hd.1]; exact c1
    · rw [hc _ _ hd.2.2.2]; exact c2
    · rw [hc _ _ hd.2.1]; exact c3
    · rw [hc _ _ hd.2.2.1]; exact c4
  · refine ⟨m', (nr, .loop nr env [po 43, po 44] x y .ret) :: g', false, rfl, h3, h4'.cons (by omega) (Nat.le_refl _) (tame_loop hlo), fun r a1 a2 a3 a4 a5 => by rw [hc _ r a5, h5' r a1 a2 a3 a4, hk r a5], .inr ⟨rfl, hb, getO_hd, ?_, ?_⟩⟩
    · rw [hc _ _ hd.2.1]; exact c3
    · rw [hc _ _ hd.2.2.1]; exact c4
end Go.Proofs.Ytjagmfgjlfkmgaa

/- The program's walk over what must grow. No condition but lengths. -/
namespace Go.Proofs.Ytjagmfgjlfkmgaa
open Go

theorem reach_row {h : Hps} {r q len : Nat} {v : List Int} {N : Int} {s : Sl LV} (hg : getO h r = .row 1 (v.map encN)) : reachC h [(D.agg [.int .i64 (N), slD 2 encV (s)]), .ms 1 r 0 len false] (.fn q [] []) = [r] := by
  have e1 : rdOb (.row 1 (v.map encN)) = [] := by
    show rfL (rd 20) (v.map encN) = []
    have : ∀ t : List Int, rfL (rd 20) (t.map encN) = [] := fun t => by
      induction t with
      | nil => rfl
      | cons a t ih => rw [List.map_cons, rfL_cons, ih]; rfl
    exact this _
  show reach h (4095 + 1) (appN (appN (appN [] (appN (rd 19 (slD 2 encV s)) [])) (appN [r] [])) []) [] = [r]
  rw [show rd 19 (slD 2 encV s) = [] from by rcases slD_isSl 2 encV s with ⟨h1, _⟩ | ⟨_, _, h1⟩ <;> rw [h1] <;> rfl]
  show reach h (4094 + 1) (appN (rdOb (getO h r)) []) [r] = [r]
  rw [hg, e1]
  rfl
theorem rndsP_cons {big : Bool} {x : Lm} {t : List Lm} {s : List Int × Bool} : rndsP big (x :: t) s = (match limP big s x with
    | none => none
    | some s' => rndsP big t s') := rfl

set_option maxHeartbeats 8000000 in
theorem grownRun {lo b b2 b3 q na nr r4 r5 r10 : Nat} {qs : List QLim} {K : List (Nat × Ob)} {big : Bool} {env : Tr} {x y : DCode} (R : SolRnd lo b q na nr r4 r5 r10 K big env x y) {h : Hps} {v : List Int} (H : Wh lo b (nr + 1) h) (hna : na ≤ 1000) (hqs : SeenQ na qs) (hql : qs.length ≤ 2000) (hl : isLoop nr env x y .none h) (hv : Nums na v)
    (lq : q < nr) (l2 : b2 < nr) (l3 : b3 < nr) (l4 : r4 < nr) (l5 : r5 < nr) (l10 : r10 < nr) (d2 : b2 ≠ q ∧ b2 ≠ r4 ∧ b2 ≠ r5 ∧ b2 ≠ r10) (d3 : b3 ≠ q ∧ b3 ≠ r4 ∧ b3 ≠ r5 ∧ b3 ≠ r10) (hbn : b ≤ nr) (hlo : lo ≤ nr) (hK : ∀ p, p ∈ K → (p.1 < nr ∧ p.1 ≠ q ∧ p.1 ≠ r4 ∧ p.1 ≠ r5 ∧ p.1 ≠ r10) ∧ getO h p.1 = p.2)
    (s2 : getO h b2 = .row 1 [slD 4 encQ (Sl.app qs)]) (s3 : getO h b3 = .row 1 [.ms 1 q 0 na false]) (sq : getO h q = .row 1 (v.map encN)) (s10 : getO h r10 = .row 1 [.bool true]) (s4 : getO h r4 = .row 1 [.nils]) (s5 : getO h r5 = .row 1 [.int .i64 0]) :
    ∃ h', callFn (LX (cFk kS Go.Proofs.Try.prog)) (nr + 1) h [.yld nr, .ptr b2 0 0, .ptr b3 0 0] (cFk kS Go.Proofs.Try.prog 80) = .ok (.tup []) (nr + 1) h' ∧ Wh lo b (nr + 1) h' ∧ (∀ r, r < nr → r ≠ q → r ≠ r4 → r ≠ r5 → r ≠ r10 → getO h' r = getO h r) ∧
      ((∃ v' ch, rndsP big (qs.map qlm) (v, false) = some (v', ch) ∧ isLoop nr env x y .none h' ∧ getO h' q = .row 1 (v'.map encN) ∧ getO h' r10 = .row 1 [.bool (!ch)] ∧ getO h' r4 = .row 1 [.nils] ∧ getO h' r5 = .row 1 [.int .i64 0]) ∨
        (rndsP big (qs.map qlm) (v, false) = none ∧ isLoop nr env x y .ret h' ∧ getO h' r4 = .row 1 [.nils] ∧ getO h' r5 = .row 1 [.int .i64 52])) := by
  generalize hRR : rndsP big (qs.map qlm) (v, false) = RR
  have hgn := H.good (nr + 1) (Nat.le_refl _)
  rw [f80_eq]; unfold c80; rw [callFn_eq (by rfl)]
  simp (disch := first | assumption | omega | (simp (disch := first | assumption | omega) only [sB, Nat.reduceAdd, Nat.reduceLT, Nat.reduceLeDiff, Nat.reduceEqDiff, Nat.reduceMul, ↓reduceIte]; done) | fail) only [sA, ↓reduceIte, Nat.reduceLT, Nat.reduceEqDiff, Nat.reduceAdd, Nat.reduceLeDiff, s2]
  generalize hr : LX (cFk kS Go.Proofs.Try.prog) (.loop l80_0) _ _ _ = r
  obtain ⟨z, e2, n2, h2, rfl, H2, kp, hcase⟩ := loop_up hr qs.length
    (fun i e' n' g => Wh lo b n' g ∧ nr + 1 ≤ n' ∧ (∀ r, r < nr → r ≠ q → r ≠ r4 → r ≠ r5 → r ≠ r10 → getO g r = getO h r) ∧ isLoop nr env x y .none g ∧ (∃ v' ch, RR = rndsP big ((qs.map qlm).drop i) (v', ch) ∧ Nums na v' ∧ getO g q = .row 1 (v'.map encN) ∧ getO g r10 = .row 1 [.bool (!ch)]) ∧ getO g r4 = .row 1 [.nils] ∧ getO g r5 = .row 1 [.int .i64 0] ∧
      get (po 0) e' = .yld nr ∧ get (po 1) e' = .ptr b2 0 0 ∧ get (po 2) e' = .ptr b3 0 0 ∧ get (po 7) e' = slD 4 encQ (Sl.app qs) ∧ get (po 8) e' = .int .i64 (qs.length : Nat) ∧ get (po 9) e' = .int .i64 (i : Nat))
    (fun z e' n' g => Wh lo b n' g ∧ (∀ r, r < nr → r ≠ q → r ≠ r4 → r ≠ r5 → r ≠ r10 → getO g r = getO h r) ∧ ((z = .exit 0 ∧ ∃ v' ch, RR = some (v', ch) ∧ isLoop nr env x y .none g ∧ getO g q = .row 1 (v'.map encN) ∧ getO g r10 = .row 1 [.bool (!ch)] ∧ getO g r4 = .row 1 [.nils] ∧ getO g r5 = .row 1 [.int .i64 0]) ∨
      (z = .ret ∧ RR = none ∧ isLoop nr env x y .ret g ∧ getO g r4 = .row 1 [.nils] ∧ getO g r5 = .row 1 [.int .i64 52])))
    (by
      rintro e' n' g ⟨H, p1, kp, hl, ⟨v', ch, hR, hv', gq, g10'⟩, g4, g5, k0, k1, k2, k7, k8, k9⟩
      rw [show qs.length = (qs.map qlm).length by rw [List.length_map], List.drop_length] at hR
      unfold l80_0
      simp (disch := first | assumption | omega | (simp (disch := first | assumption | omega) only [sB, Nat.reduceAdd, Nat.reduceLT, Nat.reduceLeDiff, Nat.reduceEqDiff, Nat.reduceMul, ↓reduceIte]; done) | fail) only [sA, ↓reduceIte, Nat.reduceLT, Nat.reduceEqDiff, Nat.reduceAdd, Nat.reduceLeDiff, k8, k9]
      exact ⟨_, _, _, _, rfl, by simp, H.mono (by omega), kp, .inl ⟨rfl, v', ch, hR, hl, gq, g10', g4, g5⟩⟩)
    (by
      rintro i e' n' g hi ⟨H, p1, kp, hl, ⟨v', ch, hR, hv', gq, g10'⟩, g4, g5, k0, k1, k2, k7, k8, k9⟩
      rw [List.drop_eq_getElem_cons (by rw [List.length_map]; exact hi), List.getElem_map] at hR
      have hx := hqs qs[i] (List.getElem_mem hi)
      generalize hW : qs[i] = W at hx hR
      obtain ⟨⟨an, av⟩, on, less⟩ := W
      obtain ⟨ra, hls, hon1, hon2⟩ := hx
      replace ra : Lev.right ⟨an, av⟩ = true := ra
      replace hls : 0 ≤ less ∧ less ≤ 1000 := hls
      replace hon1 : -1 ≤ on := hon1
      replace hon2 : on < na := hon2
      have hav : av.length ≤ 64 := (right_iff.1 ra).2.1
      have g3 : getO g b3 = .row 1 [.ms 1 q 0 na false] := (kp _ l3 d3.1 d3.2.1 d3.2.2.1 d3.2.2.2).trans s3
      have HB : Wh lo b (n' + 4) ((n' + 3, .row 4 [encQ ⟨⟨an, av⟩, on, less⟩]) :: g) := H.cons (r := n' + 3) (m := n' + 4) (by omega) (by omega) (tame_flat (by unfold encQ; simp [flat_agg, flat1_slD, flat1_int]))
      rw [rndsP_cons] at hR
      unfold l80_0
      by_cases y0 : on < 0
      · have e1 : limP big (v', ch) (qlm ⟨⟨an, av⟩, on, less⟩) = some (v', ch) := by
          unfold limP qlm
          simp only [if_pos y0]
        rw [e1] at hR
        simp (disch := first | assumption | omega | (simp (disch := first | assumption | omega) only [sB, Nat.reduceAdd, Nat.reduceLT, Nat.reduceLeDiff, Nat.reduceEqDiff, Nat.reduceMul, ↓reduceIte, app_el, hi]; done) | fail) only [sA, ↓reduceIte, Nat.reduceLT, Nat.reduceEqDiff, Nat.reduceAdd, Nat.reduceLeDiff, k7, k8, k9, hW, encQ, y0, app_el, hi]
        exact ⟨_, _, _, _, rfl, .inl ⟨rfl, HB.mono (by omega), by omega, fun r a1 a2 a3 a4 a5 => (getO_tl (by omega)).trans (kp r a1 a2 a3 a4 a5), getO_keep hl (by omega), ⟨v', ch, hR, hv', getO_keep gq (by omega), getO_keep g10' (by omega)⟩, getO_keep g4 (by omega), getO_keep g5 (by omega), by simp (disch := first | assumption | omega | (simp (disch := first | assumption | omega) only [sB, Nat.reduceAdd, Nat.reduceLT, Nat.reduceLeDiff, Nat.reduceEqDiff, Nat.reduceMul, ↓reduceIte]; done) | fail) only [sA, ↓reduceIte, Nat.reduceLT, Nat.reduceEqDiff, Nat.reduceAdd, Nat.reduceLeDiff, k0], by simp (disch := first | assumption | omega | (simp (disch := first | assumption | omega) only [sB, Nat.reduceAdd, Nat.reduceLT, Nat.reduceLeDiff, Nat.reduceEqDiff, Nat.reduceMul, ↓reduceIte]; done) | fail) only [sA, ↓reduceIte, Nat.reduceLT, Nat.reduceEqDiff, Nat.reduceAdd, Nat.reduceLeDiff, k1], by simp (disch := first | assumption | omega | (simp (disch := first | assumption | omega) only [sB, Nat.reduceAdd, Nat.reduceLT, Nat.reduceLeDiff, Nat.reduceEqDiff, Nat.reduceMul, ↓reduceIte]; done) | fail) only [sA, ↓reduceIte, Nat.reduceLT, Nat.reduceEqDiff, Nat.reduceAdd, Nat.reduceLeDiff, k2], by simp (disch := first | assumption | omega | (simp (disch := first | assumption | omega) only [sB, Nat.reduceAdd, Nat.reduceLT, Nat.reduceLeDiff, Nat.reduceEqDiff, Nat.reduceMul, ↓reduceIte]; done) | fail) only [sA, ↓reduceIte, Nat.reduceLT, Nat.reduceEqDiff, Nat.reduceAdd, Nat.reduceLeDiff, k7], by simp (disch := first | assumption | omega | (simp (disch := first | assumption | omega) only [sB, Nat.reduceAdd, Nat.reduceLT, Nat.reduceLeDiff, Nat.reduceEqDiff, Nat.reduceMul, ↓reduceIte]; done) | fail) only [sA, ↓reduceIte, Nat.reduceLT, Nat.reduceEqDiff, Nat.reduceAdd, Nat.reduceLeDiff, k8], by simp (disch := first | assumption | omega | (simp (disch := first | assumption | omega) only [sB, Nat.reduceAdd, Nat.reduceLT, Nat.reduceLeDiff, Nat.reduceEqDiff, Nat.reduceMul, ↓reduceIte]; done) | fail) only [sA, ↓reduceIte, Nat.reduceLT, Nat.reduceEqDiff, Nat.reduceAdd, Nat.reduceLeDiff]⟩⟩
      · obtain ⟨vn, rfl⟩ : ∃ vn : Nat, on = (vn : Int) := Int.eq_ofNat_of_zero_le (by omega)
        have hvn : vn < na := by omega
        have hvl : vn < v'.length := by rw [hv'.1]; exact hvn
        have e1 : limP big (v', ch) (qlm ⟨⟨an, av⟩, (vn : Int), less⟩) = (if gv v' vn < lval ⟨an, av⟩ v' - less then (if 1000 < lval ⟨an, av⟩ v' - less ∨ big = true then none else some (v'.set vn (lval ⟨an, av⟩ v' - less), true)) else some (v', ch)) := by
          unfold limP qlm
          simp only [if_neg y0, Int.toNat_natCast]
        rw [e1] at hR
        have hT := lval_low hv' ra
        have hgv := hv'.2 vn
        obtain ⟨G, hG⟩ : ∃ G, G = (q, Ob.row 1 (v'.map encN)) :: delO ((n' + 3, .row 4 [.agg [.int .i64 an, slD 2 encV (Sl.app av), .int .i64 (vn : Int), .int .i64 less]]) :: g) q := ⟨_, rfl⟩
        have bq : getO ((n' + 3, .row 4 [.agg [.int .i64 an, slD 2 encV (Sl.app av), .int .i64 (vn : Int), .int .i64 less]]) :: g) q = .row 1 (v'.map encN) := getO_keep gq (by omega)
        have hre := reach_row (q := 49) (len := na) (N := an) (s := Sl.app av) bq
        have hsub : ∀ m, n' + 4 ≤ m → subC (callX (cFk kS Go.Proofs.Try.prog) (LX (cFk kS Go.Proofs.Try.prog))) [q] m ((n' + 3, .row 4 [.agg [.int .i64 an, slD 2 encV (Sl.app av), .int .i64 (vn : Int), .int .i64 less]]) :: g) (.fn 49 [] []) [(D.agg [.int .i64 (an), slD 2 encV (Sl.app av)]), .ms 1 q 0 na false] = .ok (.int .i64 (lval ⟨an, av⟩ v')) (m + 1) G := fun m hm => by
          rw [hG, ← hre]
          exact evalD bq hv' hna (by omega) hav ra
        have kG : ∀ r, getO G r = getO ((n' + 3, .row 4 [.agg [.int .i64 an, slD 2 encV (Sl.app av), .int .i64 (vn : Int), .int .i64 less]]) :: g) r := fun r => by rw [hG]; exact front_get bq
        have WG : ∀ m, n' + 4 ≤ m → Wh lo b m G := fun m hm => by rw [hG]; exact (HB.mono hm).front (by omega)
        have hkeys : ∀ m, n' + 4 ≤ m → keysFrom m G = [] := fun m hm => keys_low ((WG m hm).good m (Nat.le_refl _))
        clear hG
        have G5 : getO G (n' + 3) = .row 4 [.agg [.int .i64 an, slD 2 encV (Sl.app av), .int .i64 (vn : Int), .int .i64 less]] := (kG _).trans getO_hd
        have G3 : getO G b3 = .row 1 [.ms 1 q 0 na false] := (kG _).trans (getO_keep g3 (by omega))
        have Gq : getO G q = .row 1 (v'.map encN) := (kG _).trans bq
        have G10 : getO G r10 = .row 1 [.bool (!ch)] := (kG _).trans (getO_keep g10' (by omega))
        have G4 : getO G r4 = .row 1 [.nils] := (kG _).trans (getO_keep g4 (by omega))
        have Gr5 : getO G r5 = .row 1 [.int .i64 0] := (kG _).trans (getO_keep g5 (by omega))
        have Gl : isLoop nr env x y .none G := (kG _).trans (getO_keep hl (by omega))
        have kp2 : ∀ r, r < nr → r ≠ q → r ≠ r4 → r ≠ r5 → r ≠ r10 → getO G r = getO h r := fun r a1 a2 a3 a4 a5 => (kG r).trans ((getO_tl (by omega)).trans (kp r a1 a2 a3 a4 a5))
        have hrg := row_get hvl
        generalize lval ⟨an, av⟩ v' = T at hR hT hsub
        by_cases y1 : T - less > gv v' vn
        · rw [if_pos (by omega)] at hR
          simp (disch := first | assumption | omega | (simp (disch := first | assumption | omega) only [sB, Nat.reduceAdd, Nat.reduceLT, Nat.reduceLeDiff, Nat.reduceEqDiff, Nat.reduceMul, ↓reduceIte, app_el, hi]; done) | fail) only [sA, ↓reduceIte, Nat.reduceLT, Nat.reduceEqDiff, Nat.reduceAdd, Nat.reduceLeDiff, k0, k2, k7, k8, k9, hW, encQ, y0, y1, g3, hre, hsub, hkeys, G5, G3, Gq, hrg, iaddr_row, apartR_cons, app_el, hi]
          obtain ⟨m', g', t, hy, hm', W', kg', hc⟩ := yield_run R (m := n' + 8796093022229) (g := G) (v := v') (on := vn) (k := T - less) (by omega) hlo (fun p hp => by obtain ⟨⟨a1, a2, a3, a4, a5⟩, a6⟩ := hK p hp; exact ⟨by omega, (kp2 _ a1 a2 a3 a4 a5).trans a6⟩) ⟨by omega, by omega, by omega, by omega⟩ (WG _ (by omega)) Gl Gq hv'.1 hvn ⟨_, G10⟩ G4 Gr5
          have kp3 : ∀ r, r < nr → r ≠ q → r ≠ r4 → r ≠ r5 → r ≠ r10 → getO g' r = getO h r := fun r a1 a2 a3 a4 a5 => (kg' r a2 a3 a4 a5 (by omega)).trans (kp2 r a1 a2 a3 a4 a5)
          rcases hc with ⟨rfl, hb, c1, c2, c3, c4, c5⟩ | ⟨rfl, hb, c1, c4, c5⟩
          · rw [if_neg hb] at hR
            have hn2 : Nums na (v'.set vn (T - less)) := ⟨by rw [List.length_set]; exact hv'.1, fun j => by
              rw [gv_set hvl]
              have h1 := hv'.2 j
              have h2 : ¬ 1000 < T - less := fun h => hb (.inl h)
              split <;> omega⟩
            simp (disch := first | assumption | omega | (simp (disch := first | assumption | omega) only [sB, Nat.reduceAdd, Nat.reduceLT, Nat.reduceLeDiff, Nat.reduceEqDiff, Nat.reduceMul, ↓reduceIte]; done) | fail) only [sA, ↓reduceIte, Nat.reduceLT, Nat.reduceEqDiff, Nat.reduceAdd, Nat.reduceLeDiff, hy, k9]
            exact ⟨_, _, _, _, rfl, .inl ⟨rfl, W'.mono (by omega), by omega, kp3, c1, ⟨_, true, hR, hn2, c2, c3⟩, c4, c5, by simp (disch := first | assumption | omega | (simp (disch := first | assumption | omega) only [sB, Nat.reduceAdd, Nat.reduceLT, Nat.reduceLeDiff, Nat.reduceEqDiff, Nat.reduceMul, ↓reduceIte]; done) | fail) only [sA, ↓reduceIte, Nat.reduceLT, Nat.reduceEqDiff, Nat.reduceAdd, Nat.reduceLeDiff, k0], by simp (disch := first | assumption | omega | (simp (disch := first | assumption | omega) only [sB, Nat.reduceAdd, Nat.reduceLT, Nat.reduceLeDiff, Nat.reduceEqDiff, Nat.reduceMul, ↓reduceIte]; done) | fail) only [sA, ↓reduceIte, Nat.reduceLT, Nat.reduceEqDiff, Nat.reduceAdd, Nat.reduceLeDiff, k1], by simp (disch := first | assumption | omega | (simp (disch := first | assumption | omega) only [sB, Nat.reduceAdd, Nat.reduceLT, Nat.reduceLeDiff, Nat.reduceEqDiff, Nat.reduceMul, ↓reduceIte]; done) | fail) only [sA, ↓reduceIte, Nat.reduceLT, Nat.reduceEqDiff, Nat.reduceAdd, Nat.reduceLeDiff, k2], by simp (disch := first | assumption | omega | (simp (disch := first | assumption | omega) only [sB, Nat.reduceAdd, Nat.reduceLT, Nat.reduceLeDiff, Nat.reduceEqDiff, Nat.reduceMul, ↓reduceIte]; done) | fail) only [sA, ↓reduceIte, Nat.reduceLT, Nat.reduceEqDiff, Nat.reduceAdd, Nat.reduceLeDiff, k7], by simp (disch := first | assumption | omega | (simp (disch := first | assumption | omega) only [sB, Nat.reduceAdd, Nat.reduceLT, Nat.reduceLeDiff, Nat.reduceEqDiff, Nat.reduceMul, ↓reduceIte]; done) | fail) only [sA, ↓reduceIte, Nat.reduceLT, Nat.reduceEqDiff, Nat.reduceAdd, Nat.reduceLeDiff, k8], by simp (disch := first | assumption | omega | (simp (disch := first | assumption | omega) only [sB, Nat.reduceAdd, Nat.reduceLT, Nat.reduceLeDiff, Nat.reduceEqDiff, Nat.reduceMul, ↓reduceIte]; done) | fail) only [sA, ↓reduceIte, Nat.reduceLT, Nat.reduceEqDiff, Nat.reduceAdd, Nat.reduceLeDiff]⟩⟩
          · rw [if_pos hb] at hR
            simp (disch := first | assumption | omega | (simp (disch := first | assumption | omega) only [sB, Nat.reduceAdd, Nat.reduceLT, Nat.reduceLeDiff, Nat.reduceEqDiff, Nat.reduceMul, ↓reduceIte]; done) | fail) only [sA, ↓reduceIte, Nat.reduceLT, Nat.reduceEqDiff, Nat.reduceAdd, Nat.reduceLeDiff, hy]
            exact ⟨_, _, _, _, rfl, .inr ⟨by simp, W'.mono (by omega), kp3, .inr ⟨rfl, hR, c1, c4, c5⟩⟩⟩
        · rw [if_neg (by omega)] at hR
          simp (disch := first | assumption | omega | (simp (disch := first | assumption | omega) only [sB, Nat.reduceAdd, Nat.reduceLT, Nat.reduceLeDiff, Nat.reduceEqDiff, Nat.reduceMul, ↓reduceIte, app_el, hi]; done) | fail) only [sA, ↓reduceIte, Nat.reduceLT, Nat.reduceEqDiff, Nat.reduceAdd, Nat.reduceLeDiff, k0, k2, k7, k8, k9, hW, encQ, y0, y1, g3, hre, hsub, hkeys, G5, G3, Gq, hrg, iaddr_row, apartR_cons, app_el, hi]
          exact ⟨_, _, _, _, rfl, .inl ⟨rfl, WG _ (by omega), by omega, kp2, Gl, ⟨v', ch, hR, hv', Gq, G10⟩, G4, Gr5, by simp (disch := first | assumption | omega | (simp (disch := first | assumption | omega) only [sB, Nat.reduceAdd, Nat.reduceLT, Nat.reduceLeDiff, Nat.reduceEqDiff, Nat.reduceMul, ↓reduceIte]; done) | fail) only [sA, ↓reduceIte, Nat.reduceLT, Nat.reduceEqDiff, Nat.reduceAdd, Nat.reduceLeDiff, k0], by simp (disch := first | assumption | omega | (simp (disch := first | assumption | omega) only [sB, Nat.reduceAdd, Nat.reduceLT, Nat.reduceLeDiff, Nat.reduceEqDiff, Nat.reduceMul, ↓reduceIte]; done) | fail) only [sA, ↓reduceIte, Nat.reduceLT, Nat.reduceEqDiff, Nat.reduceAdd, Nat.reduceLeDiff, k1], by simp (disch := first | assumption | omega | (simp (disch := first | assumption | omega) only [sB, Nat.reduceAdd, Nat.reduceLT, Nat.reduceLeDiff, Nat.reduceEqDiff, Nat.reduceMul, ↓reduceIte]; done) | fail) only [sA, ↓reduceIte, Nat.reduceLT, Nat.reduceEqDiff, Nat.reduceAdd, Nat.reduceLeDiff, k2], by simp (disch := first | assumption | omega | (simp (disch := first | assumption | omega) only [sB, Nat.reduceAdd, Nat.reduceLT, Nat.reduceLeDiff, Nat.reduceEqDiff, Nat.reduceMul, ↓reduceIte]; done) | fail) only [sA, ↓reduceIte, Nat.reduceLT, Nat.reduceEqDiff, Nat.reduceAdd, Nat.reduceLeDiff, k7], by simp (disch := first | assumption | omega | (simp (disch := first | assumption | omega) only [sB, Nat.reduceAdd, Nat.reduceLT, Nat.reduceLeDiff, Nat.reduceEqDiff, Nat.reduceMul, ↓reduceIte]; done) | fail) only [sA, ↓reduceIte, Nat.reduceLT, Nat.reduceEqDiff, Nat.reduceAdd, Nat.reduceLeDiff, k8], by simp (disch := first | assumption | omega | (simp (disch := first | assumption | omega) only [sB, Nat.reduceAdd, Nat.reduceLT, Nat.reduceLeDiff, Nat.reduceEqDiff, Nat.reduceMul, ↓reduceIte]; done) | fail) only [sA, ↓reduceIte, Nat.reduceLT, Nat.reduceEqDiff, Nat.reduceAdd, Nat.reduceLeDiff]⟩⟩)
    ⟨H.mono (by omega), by omega, fun _ _ _ _ _ _ => rfl, hl, ⟨v, false, hRR.symm, hv, sq, s10⟩, s4, s5, by simp (disch := first | assumption | omega | (simp (disch := first | assumption | omega) only [sB, Nat.reduceAdd, Nat.reduceLT, Nat.reduceLeDiff, Nat.reduceEqDiff, Nat.reduceMul, ↓reduceIte]; done) | fail) only [sA, ↓reduceIte, Nat.reduceLT, Nat.reduceEqDiff, Nat.reduceAdd, Nat.reduceLeDiff], by simp (disch := first | assumption | omega | (simp (disch := first | assumption | omega) only [sB, Nat.reduceAdd, Nat.reduceLT, Nat.reduceLeDiff, Nat.reduceEqDiff, Nat.reduceMul, ↓reduceIte]; done) | fail) only [sA, ↓reduceIte, Nat.reduceLT, Nat.reduceEqDiff, Nat.reduceAdd, Nat.reduceLeDiff], by simp (disch := first | assumption | omega | (simp (disch := first | assumption | omega) only [sB, Nat.reduceAdd, Nat.reduceLT, Nat.reduceLeDiff, Nat.reduceEqDiff, Nat.reduceMul, ↓reduceIte]; done) | fail) only [sA, ↓reduceIte, Nat.reduceLT, Nat.reduceEqDiff, Nat.reduceAdd, Nat.reduceLeDiff], by simp (disch := first | assumption | omega | (simp (disch := first | assumption | omega) only [sB, Nat.reduceAdd, Nat.reduceLT, Nat.reduceLeDiff, Nat.reduceEqDiff, Nat.reduceMul, ↓reduceIte]; done) | fail) only [sA, ↓reduceIte, Nat.reduceLT, Nat.reduceEqDiff, Nat.reduceAdd, Nat.reduceLeDiff], by simp (disch := first | assumption | omega | (simp (disch := first | assumption | omega) only [sB, Nat.reduceAdd, Nat.reduceLT, Nat.reduceLeDiff, Nat.reduceEqDiff, Nat.reduceMul, ↓reduceIte]; done) | fail) only [sA, ↓reduceIte, Nat.reduceLT, Nat.reduceEqDiff, Nat.reduceAdd, Nat.reduceLeDiff, app_el], by simp (disch := first | assumption | omega | (simp (disch := first | assumption | omega) only [sB, Nat.reduceAdd, Nat.reduceLT, Nat.reduceLeDiff, Nat.reduceEqDiff, Nat.reduceMul, ↓reduceIte]; done) | fail) only [sA, ↓reduceIte, Nat.reduceLT, Nat.reduceEqDiff, Nat.reduceAdd, Nat.reduceLeDiff]⟩
  have hfin : ∀ m, finishD (nr + 1) m h2 (.tup []) = .ok (.tup []) (nr + 1) (dropFrom (nr + 1) h2) := fun m => H2.fin (by omega) rfl m
  have hdr : ∀ r, r < nr + 1 → getO (dropFrom (nr + 1) h2) r = getO h2 r := fun r hr => by rw [getO_dropFrom, if_pos hr]
  have hW : Wh lo b (nr + 1) (dropFrom (nr + 1) h2) := H2.drop (by omega)
  refine ⟨dropFrom (nr + 1) h2, ?_, hW, fun r a1 a2 a3 a4 a5 => (hdr r (by omega)).trans (kp r a1 a2 a3 a4 a5), ?_⟩
  · rcases hcase with ⟨rfl, _⟩ | ⟨rfl, _⟩
    · simp (disch := first | assumption | omega | (simp (disch := first | assumption | omega) only [sB, Nat.reduceAdd, Nat.reduceLT, Nat.reduceLeDiff, Nat.reduceEqDiff, Nat.reduceMul, ↓reduceIte]; done) | fail) only [sA, ↓reduceIte, Nat.reduceLT, Nat.reduceEqDiff, Nat.reduceAdd, Nat.reduceLeDiff, hfin]
    · simp (disch := first | assumption | omega | (simp (disch := first | assumption | omega) only [sB, Nat.reduceAdd, Nat.reduceLT, Nat.reduceLeDiff, Nat.reduceEqDiff, Nat.reduceMul, ↓reduceIte]; done) | fail) only [sA, ↓reduceIte, Nat.reduceLT, Nat.reduceEqDiff, Nat.reduceAdd, Nat.reduceLeDiff, hfin]
  · rcases hcase with ⟨_, v', ch, hR, c1, c2, c3, c4, c5⟩ | ⟨_, hR, c1, c4, c5⟩
    · exact .inl ⟨v', ch, hR, (hdr _ (by omega)).trans c1, (hdr _ (by omega)).trans c2, (hdr _ (by omega)).trans c3, (hdr _ (by omega)).trans c4, (hdr _ (by omega)).trans c5⟩
    · exact .inr ⟨hR, (hdr _ (by omega)).trans c1, (hdr _ (by omega)).trans c4, (hdr _ (by omega)).trans c5⟩
end Go.Proofs.Ytjagmfgjlfkmgaa

/- The program's rounds. No condition but lengths. -/
namespace Go.Proofs.Ytjagmfgjlfkmgaa
open Go

theorem rndsP_big : ∀ {l : List Lm} {s s' : List Int × Bool}, rndsP true l s = some s' → s' = s
  | [], s, s', h => by cases h; rfl
  | x :: t, s, s', h => by
    rw [rndsP_cons] at h
    cases e : limP true s x with
    | none => rw [e] at h; cases h
    | some s1 =>
      rw [e] at h
      have := (limP_some e).2 rfl
      subst this
      exact rndsP_big h
theorem rng_grown {lo b b2 b3 q na m r4 r5 r10 : Nat} {qs : List QLim} {K : List (Nat × Ob)} {big : Bool} {e : Tr} {f : Opd} {x y : DCode} {g : Hps} {r : Re} {v : List Int} (hr : LX (cFk kS Go.Proofs.Try.prog) (.rng f [po 43, po 44] x y) e m g = r) (hf : ev e f = .fn 80 [] [.ptr b2 0 0, .ptr b3 0 0])
    (H : Wh lo b m g) (hna : na ≤ 1000) (hqs : SeenQ na qs) (hql : qs.length ≤ 2000) (hv : Nums na v)
    (lq : q < m) (l2 : b2 < m) (l3 : b3 < m) (l4 : r4 < m) (l5 : r5 < m) (l10 : r10 < m) (d2 : b2 ≠ q ∧ b2 ≠ r4 ∧ b2 ≠ r5 ∧ b2 ≠ r10) (d3 : b3 ≠ q ∧ b3 ≠ r4 ∧ b3 ≠ r5 ∧ b3 ≠ r10) (hbn : b ≤ m) (hlo : lo ≤ m) (hK : ∀ p, p ∈ K → (p.1 < m ∧ p.1 ≠ q ∧ p.1 ≠ r4 ∧ p.1 ≠ r5 ∧ p.1 ≠ r10) ∧ getO g p.1 = p.2)
    (s2 : getO g b2 = .row 1 [slD 4 encQ (Sl.app qs)]) (s3 : getO g b3 = .row 1 [.ms 1 q 0 na false]) (sq : getO g q = .row 1 (v.map encN)) (s10 : getO g r10 = .row 1 [.bool true]) (s4 : getO g r4 = .row 1 [.nils]) (s5 : getO g r5 = .row 1 [.int .i64 0])
    (R : SolRnd lo b q na m r4 r5 r10 K big e x y) :
    ∃ z g', r = .ok z e (m + 1) g' ∧ Wh lo b (m + 1) g' ∧ (∀ r, r < m → r ≠ q → r ≠ r4 → r ≠ r5 → r ≠ r10 → getO g' r = getO g r) ∧
      ((z = .normal ∧ ∃ v' ch, rndsP big (qs.map qlm) (v, false) = some (v', ch) ∧ getO g' q = .row 1 (v'.map encN) ∧ getO g' r10 = .row 1 [.bool (!ch)] ∧ getO g' r4 = .row 1 [.nils] ∧ getO g' r5 = .row 1 [.int .i64 0]) ∨
        (z = .ret ∧ rndsP big (qs.map qlm) (v, false) = none ∧ getO g' r4 = .row 1 [.nils] ∧ getO g' r5 = .row 1 [.int .i64 52])) := by
  have kc : ∀ r, r < m → getO ((m, Ob.loop m e [po 43, po 44] x y .none) :: g) r = getO g r := fun r hr => getO_tl (by omega)
  obtain ⟨h', q1, q2, q3, q4⟩ := grownRun R (h := (m, .loop m e [po 43, po 44] x y .none) :: g) (H.cons (by omega) (by omega) (tame_loop hlo)) hna hqs hql getO_hd hv lq l2 l3 l4 l5 l10 d2 d3 hbn hlo (fun p hp => ⟨(hK p hp).1, (kc _ (hK p hp).1.1).trans (hK p hp).2⟩) ((kc _ l2).trans s2) ((kc _ l3).trans s3) ((kc _ lq).trans sq) ((kc _ l10).trans s10) ((kc _ l4).trans s4) ((kc _ l5).trans s5)
  have kd : ∀ r, r < m → getO (delO h' m) r = getO h' r := fun r hr => by rw [getO_delO, if_neg (by omega)]
  have key : ∀ j, isLoop m e x y j h' → r = afterJp e (m + 1) (delO h' m) j := fun j hj => by
    rw [← hr, LX_rng, hf]
    show rngK e m (callFn (LX (cFk kS Go.Proofs.Try.prog)) (m + 1) ((m, .loop m e [po 43, po 44] x y .none) :: g) [.yld m, .ptr b2 0 0, .ptr b3 0 0] ((cFk kS Go.Proofs.Try.prog) 80)) = _
    rw [q1]
    show afterRng e m (m + 1) h' (getO h' m) = _
    rw [show getO h' m = _ from hj]
    rfl
  have hk : ∀ r, r < m → r ≠ q → r ≠ r4 → r ≠ r5 → r ≠ r10 → getO (delO h' m) r = getO g r := fun r a1 a2 a3 a4 a5 => (kd r a1).trans ((q3 r a1 a2 a3 a4 a5).trans (kc r a1))
  rcases q4 with ⟨v', ch, hR, c1, c2, c3, c4, c5⟩ | ⟨hR, c1, c4, c5⟩
  · exact ⟨.normal, delO h' m, key _ c1, q2.del, hk, .inl ⟨rfl, v', ch, hR, (kd _ lq).trans c2, (kd _ l10).trans c3, (kd _ l4).trans c4, (kd _ l5).trans c5⟩⟩
  · exact ⟨.ret, delO h' m, key _ c1, q2.del, hk, .inr ⟨rfl, hR, (kd _ l4).trans c4, (kd _ l5).trans c5⟩⟩

set_option maxHeartbeats 8000000 in
/-- the program's rounds -/
theorem solRounds {lo b q na r2 r4 r5 r6 r8 r9 n0 : Nat} {qs : List QLim} {e : Tr} {h : Hps} {r : Re} (hr : LX (cFk kS Go.Proofs.Try.prog) (.loop l28_0) e n0 h = r) (H : Wh lo b n0 h) (hb : b = q + 1) (hna : na ≤ 1000) (hqs : SeenQ na qs) (hql : qs.length ≤ 2000) (hok : LimOk na (qs.map qlm))
    (hlo : lo ≤ r2 ∧ r2 < r4 ∧ r4 < r5 ∧ r5 < r6 ∧ r6 < q ∧ q < r8 ∧ r8 < r9 ∧ r9 < n0)
    (b2 : getO h r2 = .row 1 [.int .i64 (na : Int)]) (b4 : getO h r4 = .row 1 [.nils]) (b5 : getO h r5 = .row 1 [.int .i64 0]) (b6 : getO h r6 = .row 1 [.agg [slD 4 encQ (Sl.app qs)]]) (b8 : getO h r8 = .row 1 [.ms 1 q 0 na false]) (bq : getO h q = .row 1 ((List.replicate na (0 : Int)).map encN)) (b9 : getO h r9 = .row 1 [.int .i64 0])
    (g2 : get (po 2) e = .ptr r2 0 0) (g4 : get (po 4) e = .ptr r4 0 0) (g5 : get (po 5) e = .ptr r5 0 0) (g6 : get (po 6) e = .ptr r6 0 0) (g8 : get (po 8) e = .ptr r8 0 0) (g9 : get (po 9) e = .ptr r9 0 0) :
    ∃ z e' n' h', r = .ok z e' n' h' ∧ Wh lo b n' h' ∧ get (po 4) e' = .ptr r4 0 0 ∧ get (po 5) e' = .ptr r5 0 0 ∧ ((z = .exit 0 ∧ ∃ w, RunP na (qs.map qlm) 0 (List.replicate na 0) (some w) ∧ getO h' r4 = .row 1 [.nils] ∧ getO h' r5 = .row 1 [.int .i64 0] ∧ getO h' r6 = .row 1 [.agg [slD 4 encQ (Sl.app qs)]] ∧ getO h' r8 = .row 1 [.ms 1 q 0 na false] ∧ getO h' q = .row 1 (w.map encN) ∧ get (po 6) e' = .ptr r6 0 0 ∧ get (po 8) e' = .ptr r8 0 0) ∨
      (z = .ret ∧ RunP na (qs.map qlm) 0 (List.replicate na 0) none ∧ getO h' r4 = .row 1 [.nils] ∧ getO h' r5 = .row 1 [.int .i64 52])) := by
  refine loop_at hr
    (fun j e n' h => Wh lo b n' h ∧ n0 ≤ n' ∧ getO h r2 = .row 1 [.int .i64 (na : Int)] ∧ getO h r4 = .row 1 [.nils] ∧ getO h r5 = .row 1 [.int .i64 0] ∧ getO h r6 = .row 1 [.agg [slD 4 encQ (Sl.app qs)]] ∧ getO h r8 = .row 1 [.ms 1 q 0 na false] ∧
      get (po 2) e = .ptr r2 0 0 ∧ get (po 4) e = .ptr r4 0 0 ∧ get (po 5) e = .ptr r5 0 0 ∧ get (po 6) e = .ptr r6 0 0 ∧ get (po 8) e = .ptr r8 0 0 ∧ ∃ (k r9 : Nat) (v : List Int), j = na + 2 - k ∧ k ≤ na + 1 ∧ r8 < r9 ∧ r9 < n' ∧ getO h r9 = .row 1 [.int .i64 (k : Int)] ∧ get (po 9) e = .ptr r9 0 0 ∧ Nums na v ∧ getO h q = .row 1 (v.map encN) ∧ ∀ p, RunP na (qs.map qlm) k v p → RunP na (qs.map qlm) 0 (List.replicate na 0) p)
    (fun z e' n' h' => Wh lo b n' h' ∧ get (po 4) e' = .ptr r4 0 0 ∧ get (po 5) e' = .ptr r5 0 0 ∧ ((z = .exit 0 ∧ ∃ w, RunP na (qs.map qlm) 0 (List.replicate na 0) (some w) ∧ getO h' r4 = .row 1 [.nils] ∧ getO h' r5 = .row 1 [.int .i64 0] ∧ getO h' r6 = .row 1 [.agg [slD 4 encQ (Sl.app qs)]] ∧ getO h' r8 = .row 1 [.ms 1 q 0 na false] ∧ getO h' q = .row 1 (w.map encN) ∧ get (po 6) e' = .ptr r6 0 0 ∧ get (po 8) e' = .ptr r8 0 0) ∨
      (z = .ret ∧ RunP na (qs.map qlm) 0 (List.replicate na 0) none ∧ getO h' r4 = .row 1 [.nils] ∧ getO h' r5 = .row 1 [.int .i64 52])))
    ?_ (na + 2) ⟨H, Nat.le_refl _, b2, b4, b5, b6, b8, g2, g4, g5, g6, g8, 0, r9, _, rfl, by omega, by omega, by omega, b9, g9, zero_nums na, bq, fun _ h => h⟩
  clear b2 b4 b5 b6 b8 bq b9 g2 g4 g5 g6 g8 g9 H hr
  rintro j e n' h ⟨H, p1, b2, b4, b5, b6, b8, g2, g4, g5, g6, g8, k, r9', v, rfl, hk, l9, l9', b9, g9, hv, bq, hrun⟩
  have hgr : ∀ m hh, q < m → callFn (LX (cFk kS Go.Proofs.Try.prog)) m hh [slD 4 encQ (Sl.app qs), .ms 1 q 0 na false] (cFk kS Go.Proofs.Try.prog 67) = .ok (.fn 80 [] [.ptr m 0 0, .ptr (m + 1) 0 0]) (m + 5) ((m + 1, .row 1 [.ms 1 q 0 na false]) :: (m, .row 1 [slD 4 encQ (Sl.app qs)]) :: hh) := fun m hh hm => lvGrown m hh q na qs hm
  unfold l28_0
  simp (disch := first | assumption | omega | (simp (disch := first | assumption | omega) only [sB, Nat.reduceAdd, Nat.reduceLT, Nat.reduceLeDiff, Nat.reduceEqDiff, Nat.reduceMul, ↓reduceIte]; done) | fail) only [sA, ↓reduceIte, Nat.reduceLT, Nat.reduceEqDiff, Nat.reduceAdd, Nat.reduceLeDiff, g6, g8, b6, b8, hgr]
  generalize hE : putT (po 42) _ (putT (po 41) _ (putT (po 40) _ (putT (po 39) _ (putT (po 10) _ e)))) = E0
  generalize hr : LX (cFk kS Go.Proofs.Try.prog) (.rng _ _ _ _) E0 _ _ = r
  have e2 : get (po 2) E0 = .ptr r2 0 0 := by rw [← hE]; simp (disch := first | assumption | omega | (simp (disch := first | assumption | omega) only [sB, Nat.reduceAdd, Nat.reduceLT, Nat.reduceLeDiff, Nat.reduceEqDiff, Nat.reduceMul, ↓reduceIte]; done) | fail) only [sA, ↓reduceIte, Nat.reduceLT, Nat.reduceEqDiff, Nat.reduceAdd, Nat.reduceLeDiff, g2]
  have e4 : get (po 4) E0 = .ptr r4 0 0 := by rw [← hE]; simp (disch := first | assumption | omega | (simp (disch := first | assumption | omega) only [sB, Nat.reduceAdd, Nat.reduceLT, Nat.reduceLeDiff, Nat.reduceEqDiff, Nat.reduceMul, ↓reduceIte]; done) | fail) only [sA, ↓reduceIte, Nat.reduceLT, Nat.reduceEqDiff, Nat.reduceAdd, Nat.reduceLeDiff, g4]
  have e5 : get (po 5) E0 = .ptr r5 0 0 := by rw [← hE]; simp (disch := first | assumption | omega | (simp (disch := first | assumption | omega) only [sB, Nat.reduceAdd, Nat.reduceLT, Nat.reduceLeDiff, Nat.reduceEqDiff, Nat.reduceMul, ↓reduceIte]; done) | fail) only [sA, ↓reduceIte, Nat.reduceLT, Nat.reduceEqDiff, Nat.reduceAdd, Nat.reduceLeDiff, g5]
  have e6 : get (po 6) E0 = .ptr r6 0 0 := by rw [← hE]; simp (disch := first | assumption | omega | (simp (disch := first | assumption | omega) only [sB, Nat.reduceAdd, Nat.reduceLT, Nat.reduceLeDiff, Nat.reduceEqDiff, Nat.reduceMul, ↓reduceIte]; done) | fail) only [sA, ↓reduceIte, Nat.reduceLT, Nat.reduceEqDiff, Nat.reduceAdd, Nat.reduceLeDiff, g6]
  have e8 : get (po 8) E0 = .ptr r8 0 0 := by rw [← hE]; simp (disch := first | assumption | omega | (simp (disch := first | assumption | omega) only [sB, Nat.reduceAdd, Nat.reduceLT, Nat.reduceLeDiff, Nat.reduceEqDiff, Nat.reduceMul, ↓reduceIte]; done) | fail) only [sA, ↓reduceIte, Nat.reduceLT, Nat.reduceEqDiff, Nat.reduceAdd, Nat.reduceLeDiff, g8]
  have e9 : get (po 9) E0 = .ptr r9' 0 0 := by rw [← hE]; simp (disch := first | assumption | omega | (simp (disch := first | assumption | omega) only [sB, Nat.reduceAdd, Nat.reduceLT, Nat.reduceLeDiff, Nat.reduceEqDiff, Nat.reduceMul, ↓reduceIte]; done) | fail) only [sA, ↓reduceIte, Nat.reduceLT, Nat.reduceEqDiff, Nat.reduceAdd, Nat.reduceLeDiff, g9]
  have e10 : get (po 10) E0 = .ptr n' 0 0 := by rw [← hE]; simp (disch := first | assumption | omega | (simp (disch := first | assumption | omega) only [sB, Nat.reduceAdd, Nat.reduceLT, Nat.reduceLeDiff, Nat.reduceEqDiff, Nat.reduceMul, ↓reduceIte]; done) | fail) only [sA, ↓reduceIte, Nat.reduceLT, Nat.reduceEqDiff, Nat.reduceAdd, Nat.reduceLeDiff]
  have hf : ev E0 (.s (po 42)) = .fn 80 [] [.ptr (n' + 6) 0 0, .ptr (n' + 7) 0 0] := by rw [← hE]; simp (disch := first | assumption | omega | (simp (disch := first | assumption | omega) only [sB, Nat.reduceAdd, Nat.reduceLT, Nat.reduceLeDiff, Nat.reduceEqDiff, Nat.reduceMul, ↓reduceIte]; done) | fail) only [sA, ↓reduceIte, Nat.reduceLT, Nat.reduceEqDiff, Nat.reduceAdd, Nat.reduceLeDiff]
  clear hE
  have hc : ∀ r, r < n' → getO ((n' + 7, Ob.row 1 [.ms 1 q 0 na false]) :: (n' + 6, .row 1 [slD 4 encQ (Sl.app qs)]) :: (n', .row 1 [.bool true]) :: h) r = getO h r := fun r hr => by rw [getO_tl (by omega), getO_tl (by omega), getO_tl (by omega)]
  have HB : Wh lo b (n' + 12) ((n' + 7, Ob.row 1 [.ms 1 q 0 na false]) :: (n' + 6, .row 1 [slD 4 encQ (Sl.app qs)]) :: (n', .row 1 [.bool true]) :: h) := (((H.cons (r := n') (m := n' + 1) (by omega) (by omega) (tame_flat rfl)).cons (r := n' + 6) (m := n' + 7) (by omega) (by omega) (tame_flat flat_slD)).cons (r := n' + 7) (m := n' + 8) (by omega) (by omega) (tame_ms (by omega) (by omega))).mono (by omega)
  have key := fun R => rng_grown (K := [(r2, .row 1 [.int .i64 (na : Int)]), (r6, .row 1 [.agg [slD 4 encQ (Sl.app qs)]]), (r8, .row 1 [.ms 1 q 0 na false]), (r9', .row 1 [.int .i64 (k : Int)])]) (big := decide (na < k)) (q := q) (r4 := r4) (r5 := r5) (r10 := n') hr hf HB hna hqs hql hv (by omega) (by omega) (by omega) (by omega) (by omega) (by omega) ⟨by omega, by omega, by omega, by omega⟩ ⟨by omega, by omega, by omega, by omega⟩ (by omega) (by omega)
    (fun p hp => by
      rcases List.mem_cons.1 hp with rfl | hp
      · exact ⟨⟨by show r2 < _; omega, by show r2 ≠ _; omega, by show r2 ≠ _; omega, by show r2 ≠ _; omega, by show r2 ≠ _; omega⟩, (hc _ (by show r2 < _; omega)).trans b2⟩
      rcases List.mem_cons.1 hp with rfl | hp
      · exact ⟨⟨by show r6 < _; omega, by show r6 ≠ _; omega, by show r6 ≠ _; omega, by show r6 ≠ _; omega, by show r6 ≠ _; omega⟩, (hc _ (by show r6 < _; omega)).trans b6⟩
      rcases List.mem_cons.1 hp with rfl | hp
      · exact ⟨⟨by show r8 < _; omega, by show r8 ≠ _; omega, by show r8 ≠ _; omega, by show r8 ≠ _; omega, by show r8 ≠ _; omega⟩, (hc _ (by show r8 < _; omega)).trans b8⟩
      rw [List.mem_singleton.1 hp]
      exact ⟨⟨by show r9' < _; omega, by show r9' ≠ _; omega, by show r9' ≠ _; omega, by show r9' ≠ _; omega, by show r9' ≠ _; omega⟩, (hc _ (by show r9' < _; omega)).trans b9⟩)
    ((getO_tl (by omega)).trans getO_hd) getO_hd ((hc _ (by omega)).trans bq) ((getO_tl (by omega)).trans ((getO_tl (by omega)).trans getO_hd)) ((hc _ (by omega)).trans b4) ((hc _ (by omega)).trans b5) R
  obtain ⟨z, g', rfl, W', kp, hcase⟩ := key (by
    intro m g v on x hm W hK hq hvl hon h10 h4 h5
    have k2 : getO g r2 = .row 1 [.int .i64 (na : Int)] := hK _ (List.mem_cons_self ..)
    have k8 : getO g r8 = .row 1 [.ms 1 q 0 na false] := hK _ (List.mem_cons_of_mem _ (List.mem_cons_of_mem _ (List.mem_cons_self ..)))
    have k9 : getO g r9' = .row 1 [.int .i64 (k : Int)] := hK _ (List.mem_cons_of_mem _ (List.mem_cons_of_mem _ (List.mem_cons_of_mem _ (List.mem_cons_self ..))))
    obtain ⟨t, h10⟩ := h10
    have errW : Wh lo b m (setO (setO g r4 (.row 1 [.nils])) r5 (.row 1 [.int .i64 52])) := (W.set (tame_flat rfl)).set (tame_flat rfl)
    have err4 : getO (setO g r4 (.row 1 [.nils])) r4 = .row 1 [.nils] := getO_set1 h4
    have err5 : getO (setO g r4 (.row 1 [.nils])) r5 = .row 1 [.int .i64 0] := getO_set2 h4 h5 (by omega)
    have errk : ∀ r, r ≠ r4 → r ≠ r5 → getO (setO (setO g r4 (.row 1 [.nils])) r5 (.row 1 [.int .i64 52])) r = getO g r := fun r a1 a2 => by
      rw [getO_setO _ _ _ _ (by rw [err5]; exact fun h => by cases h), if_neg a2, getO_setO _ _ _ _ (by rw [h4]; exact fun h => by cases h), if_neg a1]
    by_cases y1 : x > 1000
    · refine ⟨m + 11, setO (setO g r4 (.row 1 [.nils])) r5 (.row 1 [.int .i64 52]), .ret, by simp (disch := first | assumption | omega | (simp (disch := first | assumption | omega) only [sB, Nat.reduceAdd, Nat.reduceLT, Nat.reduceLeDiff, Nat.reduceEqDiff, Nat.reduceMul, ↓reduceIte]; done) | fail) only [sA, ↓reduceIte, Nat.reduceLT, Nat.reduceEqDiff, Nat.reduceAdd, Nat.reduceLeDiff], ⟨_, by simp (disch := first | assumption | omega | (simp (disch := first | assumption | omega) only [sB, Nat.reduceAdd, Nat.reduceLT, Nat.reduceLeDiff, Nat.reduceEqDiff, Nat.reduceMul, ↓reduceIte]; done) | fail) only [sA, ↓reduceIte, Nat.reduceLT, Nat.reduceEqDiff, Nat.reduceAdd, Nat.reduceLeDiff, e4, e5, y1, h4, err5]; rfl⟩, by omega, errW.mono (by omega), fun r a1 a2 a3 a4 => errk r a2 a3, .inr ⟨rfl, .inl (by omega), getO_set2 err5 err4 (by omega), getO_set1 err5⟩⟩
    · by_cases y2 : (k : Int) > (na : Int)
      · refine ⟨m + 11, setO (setO g r4 (.row 1 [.nils])) r5 (.row 1 [.int .i64 52]), .ret, by simp (disch := first | assumption | omega | (simp (disch := first | assumption | omega) only [sB, Nat.reduceAdd, Nat.reduceLT, Nat.reduceLeDiff, Nat.reduceEqDiff, Nat.reduceMul, ↓reduceIte]; done) | fail) only [sA, ↓reduceIte, Nat.reduceLT, Nat.reduceEqDiff, Nat.reduceAdd, Nat.reduceLeDiff], ⟨_, by simp (disch := first | assumption | omega | (simp (disch := first | assumption | omega) only [sB, Nat.reduceAdd, Nat.reduceLT, Nat.reduceLeDiff, Nat.reduceEqDiff, Nat.reduceMul, ↓reduceIte]; done) | fail) only [sA, ↓reduceIte, Nat.reduceLT, Nat.reduceEqDiff, Nat.reduceAdd, Nat.reduceLeDiff, e2, e4, e5, e9, y1, y2, k2, k9, h4, err5]; rfl⟩, by omega, errW.mono (by omega), fun r a1 a2 a3 a4 => errk r a2 a3, .inr ⟨rfl, .inr (decide_eq_true (by omega)), getO_set2 err5 err4 (by omega), getO_set1 err5⟩⟩
      · have hst : ∀ m, storeR false 1 q on 0 (.int .i64 x) m g (.row 1 (v.map encN)) = .ok .junk m (setO g q (.row 1 ((v.set on x).map encN))) := fun m => row_put (by omega)
        have w10 : getO (setO g q (.row 1 ((v.set on x).map encN))) n' = .row 1 [.bool t] := getO_set2 hq h10 (by omega)
        have wk : ∀ r, r ≠ q → r ≠ n' → getO (setO (setO g q (.row 1 ((v.set on x).map encN))) n' (.row 1 [.bool false])) r = getO g r := fun r a1 a2 => by
          rw [getO_setO _ _ _ _ (by rw [w10]; exact fun h => by cases h), if_neg a2, getO_setO _ _ _ _ (by rw [hq]; exact fun h => by cases h), if_neg a1]
        refine ⟨m + 15, setO (setO g q (.row 1 ((v.set on x).map encN))) n' (.row 1 [.bool false]), .normal, by simp (disch := first | assumption | omega | (simp (disch := first | assumption | omega) only [sB, Nat.reduceAdd, Nat.reduceLT, Nat.reduceLeDiff, Nat.reduceEqDiff, Nat.reduceMul, ↓reduceIte]; done) | fail) only [sA, ↓reduceIte, Nat.reduceLT, Nat.reduceEqDiff, Nat.reduceAdd, Nat.reduceLeDiff], ⟨_, by simp (disch := first | assumption | omega | (simp (disch := first | assumption | omega) only [sB, Nat.reduceAdd, Nat.reduceLT, Nat.reduceLeDiff, Nat.reduceEqDiff, Nat.reduceMul, ↓reduceIte]; done) | fail) only [sA, ↓reduceIte, Nat.reduceLT, Nat.reduceEqDiff, Nat.reduceAdd, Nat.reduceLeDiff, e2, e8, e9, e10, y1, y2, k2, k8, k9, hq, hst, w10, iaddr_row]; rfl⟩, by omega, ((W.set tame_row).set (tame_flat rfl)).mono (by omega), fun r a1 a2 a3 a4 => wk r a1 a4, .inl ⟨rfl, fun h => by rcases h with h | h; omega; have := of_decide_eq_true h; omega, getO_set2 w10 (getO_set1 hq) (by omega), getO_set1 w10, (wk _ (by omega) (by omega)).trans h4, (wk _ (by omega) (by omega)).trans h5⟩⟩)
  have kk : ∀ r, r < n' → r ≠ q → r ≠ r4 → r ≠ r5 → getO g' r = getO h r := fun r a1 a2 a3 a4 => (kp r (by omega) a2 a3 a4 (by omega)).trans (hc r a1)
  rcases hcase with ⟨rfl, w, ch, hR, cq, c10, c4, c5⟩ | ⟨rfl, hR, c4, c5⟩
  · cases ch with
    | false =>
      simp (disch := first | assumption | omega | (simp (disch := first | assumption | omega) only [sB, Nat.reduceAdd, Nat.reduceLT, Nat.reduceLeDiff, Nat.reduceEqDiff, Nat.reduceMul, ↓reduceIte]; done) | fail) only [sA, ↓reduceIte, Nat.reduceLT, Nat.reduceEqDiff, Nat.reduceAdd, Nat.reduceLeDiff, e10, c10]
      exact ⟨_, _, _, _, rfl, .inr ⟨by simp, W'.mono (by omega), by simp (disch := first | assumption | omega | (simp (disch := first | assumption | omega) only [sB, Nat.reduceAdd, Nat.reduceLT, Nat.reduceLeDiff, Nat.reduceEqDiff, Nat.reduceMul, ↓reduceIte]; done) | fail) only [sA, ↓reduceIte, Nat.reduceLT, Nat.reduceEqDiff, Nat.reduceAdd, Nat.reduceLeDiff, e4], by simp (disch := first | assumption | omega | (simp (disch := first | assumption | omega) only [sB, Nat.reduceAdd, Nat.reduceLT, Nat.reduceLeDiff, Nat.reduceEqDiff, Nat.reduceMul, ↓reduceIte]; done) | fail) only [sA, ↓reduceIte, Nat.reduceLT, Nat.reduceEqDiff, Nat.reduceAdd, Nat.reduceLeDiff, e5], .inl ⟨rfl, w, hrun _ (.done hR), c4, c5, (kk _ (by omega) (by omega) (by omega) (by omega)).trans b6, (kk _ (by omega) (by omega) (by omega) (by omega)).trans b8, cq, by simp (disch := first | assumption | omega | (simp (disch := first | assumption | omega) only [sB, Nat.reduceAdd, Nat.reduceLT, Nat.reduceLeDiff, Nat.reduceEqDiff, Nat.reduceMul, ↓reduceIte]; done) | fail) only [sA, ↓reduceIte, Nat.reduceLT, Nat.reduceEqDiff, Nat.reduceAdd, Nat.reduceLeDiff, e6], by simp (disch := first | assumption | omega | (simp (disch := first | assumption | omega) only [sB, Nat.reduceAdd, Nat.reduceLT, Nat.reduceLeDiff, Nat.reduceEqDiff, Nat.reduceMul, ↓reduceIte]; done) | fail) only [sA, ↓reduceIte, Nat.reduceLT, Nat.reduceEqDiff, Nat.reduceAdd, Nat.reduceLeDiff, e8]⟩⟩⟩
    | true =>
      have hkn : k ≤ na := by
        rcases Nat.lt_or_ge na k with h1 | h1
        · rw [decide_eq_true h1] at hR
          have := rndsP_big hR
          cases this
        · exact h1
      have c9 : getO g' r9' = .row 1 [.int .i64 (k : Int)] := (kk _ (by omega) (by omega) (by omega) (by omega)).trans b9
      have hw := (steps_nums (roundP_some hR) hok hv).1
      simp (disch := first | assumption | omega | (simp (disch := first | assumption | omega) only [sB, Nat.reduceAdd, Nat.reduceLT, Nat.reduceLeDiff, Nat.reduceEqDiff, Nat.reduceMul, ↓reduceIte]; done) | fail) only [sA, ↓reduceIte, Nat.reduceLT, Nat.reduceEqDiff, Nat.reduceAdd, Nat.reduceLeDiff, e9, e10, c9, c10]
      have ck : ∀ r, r < n' → getO ((n' + 15, Ob.row 1 [.int .i64 ((k + 1 : Nat) : Int)]) :: g') r = getO g' r := fun r hr => getO_tl (by omega)
      refine ⟨_, _, _, _, rfl, .inl ⟨rfl, na + 2 - (k + 1), by omega, (W'.cons (r := n' + 15) (m := n' + 16) (by omega) (by omega) (tame_flat rfl)).mono (by omega), by omega, (ck _ (by omega)).trans ((kk _ (by omega) (by omega) (by omega) (by omega)).trans b2), (ck _ (by omega)).trans c4, (ck _ (by omega)).trans c5, (ck _ (by omega)).trans ((kk _ (by omega) (by omega) (by omega) (by omega)).trans b6), (ck _ (by omega)).trans ((kk _ (by omega) (by omega) (by omega) (by omega)).trans b8),
        by simp (disch := first | assumption | omega | (simp (disch := first | assumption | omega) only [sB, Nat.reduceAdd, Nat.reduceLT, Nat.reduceLeDiff, Nat.reduceEqDiff, Nat.reduceMul, ↓reduceIte]; done) | fail) only [sA, ↓reduceIte, Nat.reduceLT, Nat.reduceEqDiff, Nat.reduceAdd, Nat.reduceLeDiff, e2], by simp (disch := first | assumption | omega | (simp (disch := first | assumption | omega) only [sB, Nat.reduceAdd, Nat.reduceLT, Nat.reduceLeDiff, Nat.reduceEqDiff, Nat.reduceMul, ↓reduceIte]; done) | fail) only [sA, ↓reduceIte, Nat.reduceLT, Nat.reduceEqDiff, Nat.reduceAdd, Nat.reduceLeDiff, e4], by simp (disch := first | assumption | omega | (simp (disch := first | assumption | omega) only [sB, Nat.reduceAdd, Nat.reduceLT, Nat.reduceLeDiff, Nat.reduceEqDiff, Nat.reduceMul, ↓reduceIte]; done) | fail) only [sA, ↓reduceIte, Nat.reduceLT, Nat.reduceEqDiff, Nat.reduceAdd, Nat.reduceLeDiff, e5], by simp (disch := first | assumption | omega | (simp (disch := first | assumption | omega) only [sB, Nat.reduceAdd, Nat.reduceLT, Nat.reduceLeDiff, Nat.reduceEqDiff, Nat.reduceMul, ↓reduceIte]; done) | fail) only [sA, ↓reduceIte, Nat.reduceLT, Nat.reduceEqDiff, Nat.reduceAdd, Nat.reduceLeDiff, e6], by simp (disch := first | assumption | omega | (simp (disch := first | assumption | omega) only [sB, Nat.reduceAdd, Nat.reduceLT, Nat.reduceLeDiff, Nat.reduceEqDiff, Nat.reduceMul, ↓reduceIte]; done) | fail) only [sA, ↓reduceIte, Nat.reduceLT, Nat.reduceEqDiff, Nat.reduceAdd, Nat.reduceLeDiff, e8], k + 1, n' + 15, w, rfl, by omega, by omega, by omega, getO_hd, by simp (disch := first | assumption | omega | (simp (disch := first | assumption | omega) only [sB, Nat.reduceAdd, Nat.reduceLT, Nat.reduceLeDiff, Nat.reduceEqDiff, Nat.reduceMul, ↓reduceIte]; done) | fail) only [sA, ↓reduceIte, Nat.reduceLT, Nat.reduceEqDiff, Nat.reduceAdd, Nat.reduceLeDiff], hw, (ck _ (by omega)).trans cq, fun p hp => hrun _ (.more hR hp)⟩⟩
  · simp (disch := first | assumption | omega | (simp (disch := first | assumption | omega) only [sB, Nat.reduceAdd, Nat.reduceLT, Nat.reduceLeDiff, Nat.reduceEqDiff, Nat.reduceMul, ↓reduceIte]; done) | fail) only [sA, ↓reduceIte, Nat.reduceLT, Nat.reduceEqDiff, Nat.reduceAdd, Nat.reduceLeDiff]
    exact ⟨_, _, _, _, rfl, .inr ⟨by simp, W'.mono (by omega), by simp (disch := first | assumption | omega | (simp (disch := first | assumption | omega) only [sB, Nat.reduceAdd, Nat.reduceLT, Nat.reduceLeDiff, Nat.reduceEqDiff, Nat.reduceMul, ↓reduceIte]; done) | fail) only [sA, ↓reduceIte, Nat.reduceLT, Nat.reduceEqDiff, Nat.reduceAdd, Nat.reduceLeDiff, e4], by simp (disch := first | assumption | omega | (simp (disch := first | assumption | omega) only [sB, Nat.reduceAdd, Nat.reduceLT, Nat.reduceLeDiff, Nat.reduceEqDiff, Nat.reduceMul, ↓reduceIte]; done) | fail) only [sA, ↓reduceIte, Nat.reduceLT, Nat.reduceEqDiff, Nat.reduceAdd, Nat.reduceLeDiff, e5], .inr ⟨rfl, hrun _ (.err hR), c4, c5⟩⟩⟩
end Go.Proofs.Ytjagmfgjlfkmgaa

/- The program's Solve. No condition but lengths. -/
namespace Go.Proofs.Ytjagmfgjlfkmgaa
open Go

set_option maxHeartbeats 8000000 in
theorem solNums {lo b q na r4 r5 r8 n0 : Nat} {qs : List QLim} {e : Tr} {h : Hps} {r : Re} {v : List Int} (hr : LX (cFk kS Go.Proofs.Try.prog) (.loop l28_1) e n0 h = r) (H : Wh lo b n0 h) (hb : b = q + 1) (hna : na ≤ 1000) (hqs : SeenQ na qs) (hql : qs.length ≤ 2000) (hv : Nums na v)
    (hlo : lo ≤ r4 ∧ r4 < r5 ∧ r5 < q ∧ q < r8 ∧ r8 < n0)
    (b4 : getO h r4 = .row 1 [.nils]) (b5 : getO h r5 = .row 1 [.int .i64 0]) (b8 : getO h r8 = .row 1 [.ms 1 q 0 na false]) (bq : getO h q = .row 1 (v.map encN))
    (g4 : get (po 4) e = .ptr r4 0 0) (g5 : get (po 5) e = .ptr r5 0 0) (g8 : get (po 8) e = .ptr r8 0 0) (g59 : get (po 59) e = slD 4 encQ (Sl.app qs)) (g60 : get (po 60) e = .int .i64 (qs.length : Nat)) (g61 : get (po 61) e = .int .i64 0) :
    ∃ z e' n' h', r = .ok z e' n' h' ∧ Wh lo b n' h' ∧ get (po 4) e' = .ptr r4 0 0 ∧ get (po 5) e' = .ptr r5 0 0 ∧ ((z = .exit 4 ∧ NumsOk (qs.map qlm) v ∧ getO h' r4 = .row 1 [.nils] ∧ getO h' r5 = .row 1 [.int .i64 0] ∧ getO h' r8 = .row 1 [.ms 1 q 0 na false] ∧ getO h' q = .row 1 (v.map encN) ∧ get (po 8) e' = .ptr r8 0 0) ∨
      (z = .ret ∧ ¬ NumsOk (qs.map qlm) v ∧ getO h' r4 = .row 1 [.nils] ∧ getO h' r5 = .row 1 [.int .i64 52])) := by
  refine loop_up hr qs.length
    (fun i e n' h => Wh lo b n' h ∧ n0 ≤ n' ∧ getO h r4 = .row 1 [.nils] ∧ getO h r5 = .row 1 [.int .i64 0] ∧ getO h r8 = .row 1 [.ms 1 q 0 na false] ∧ getO h q = .row 1 (v.map encN) ∧ NumsOk ((qs.take i).map qlm) v ∧ get (po 4) e = .ptr r4 0 0 ∧ get (po 5) e = .ptr r5 0 0 ∧ get (po 8) e = .ptr r8 0 0 ∧ get (po 59) e = slD 4 encQ (Sl.app qs) ∧ get (po 60) e = .int .i64 (qs.length : Nat) ∧ get (po 61) e = .int .i64 (i : Nat))
    (fun z e' n' h' => Wh lo b n' h' ∧ get (po 4) e' = .ptr r4 0 0 ∧ get (po 5) e' = .ptr r5 0 0 ∧ ((z = .exit 4 ∧ NumsOk (qs.map qlm) v ∧ getO h' r4 = .row 1 [.nils] ∧ getO h' r5 = .row 1 [.int .i64 0] ∧ getO h' r8 = .row 1 [.ms 1 q 0 na false] ∧ getO h' q = .row 1 (v.map encN) ∧ get (po 8) e' = .ptr r8 0 0) ∨
      (z = .ret ∧ ¬ NumsOk (qs.map qlm) v ∧ getO h' r4 = .row 1 [.nils] ∧ getO h' r5 = .row 1 [.int .i64 52])))
    ?_ ?_ ⟨H, Nat.le_refl _, b4, b5, b8, bq, fun x hx => by simp at hx, g4, g5, g8, g59, g60, g61⟩
  · rintro e n' h ⟨H, p1, b4, b5, b8, bq, hno, g4, g5, g8, g59, g60, g61⟩
    rw [List.take_length] at hno
    unfold l28_1
    simp (disch := first | assumption | omega | (simp (disch := first | assumption | omega) only [sB, Nat.reduceAdd, Nat.reduceLT, Nat.reduceLeDiff, Nat.reduceEqDiff, Nat.reduceMul, ↓reduceIte]; done) | fail) only [sA, ↓reduceIte, Nat.reduceLT, Nat.reduceEqDiff, Nat.reduceAdd, Nat.reduceLeDiff, g60, g61]
    exact ⟨_, _, _, _, rfl, by simp, H.mono (by omega), by simp (disch := first | assumption | omega | (simp (disch := first | assumption | omega) only [sB, Nat.reduceAdd, Nat.reduceLT, Nat.reduceLeDiff, Nat.reduceEqDiff, Nat.reduceMul, ↓reduceIte]; done) | fail) only [sA, ↓reduceIte, Nat.reduceLT, Nat.reduceEqDiff, Nat.reduceAdd, Nat.reduceLeDiff, g4], by simp (disch := first | assumption | omega | (simp (disch := first | assumption | omega) only [sB, Nat.reduceAdd, Nat.reduceLT, Nat.reduceLeDiff, Nat.reduceEqDiff, Nat.reduceMul, ↓reduceIte]; done) | fail) only [sA, ↓reduceIte, Nat.reduceLT, Nat.reduceEqDiff, Nat.reduceAdd, Nat.reduceLeDiff, g5], .inl ⟨rfl, hno, b4, b5, b8, bq, by simp (disch := first | assumption | omega | (simp (disch := first | assumption | omega) only [sB, Nat.reduceAdd, Nat.reduceLT, Nat.reduceLeDiff, Nat.reduceEqDiff, Nat.reduceMul, ↓reduceIte]; done) | fail) only [sA, ↓reduceIte, Nat.reduceLT, Nat.reduceEqDiff, Nat.reduceAdd, Nat.reduceLeDiff, g8]⟩⟩
  · rintro i e n' g hi ⟨H, p1, b4, b5, b8, bq, hno, g4, g5, g8, g59, g60, g61⟩
    have hx := hqs qs[i] (List.getElem_mem hi)
    have hmem : qlm qs[i] ∈ qs.map qlm := List.mem_map.2 ⟨_, List.getElem_mem hi, rfl⟩
    have htk : (qs.take (i + 1)).map qlm = (qs.take i).map qlm ++ [qlm qs[i]] := by
      rw [List.take_succ_eq_append_getElem hi, List.map_append]; rfl
    generalize hW : qs[i] = W at hx hmem htk
    obtain ⟨⟨an, av⟩, on, less⟩ := W
    obtain ⟨ra, hls, hon1, hon2⟩ := hx
    replace ra : Lev.right ⟨an, av⟩ = true := ra
    replace hls : 0 ≤ less ∧ less ≤ 1000 := hls
    replace hon1 : -1 ≤ on := hon1
    replace hon2 : on < na := hon2
    have hav : av.length ≤ 64 := (right_iff.1 ra).2.1
    have HB : Wh lo b (n' + 4) ((n' + 3, .row 4 [.agg [.int .i64 an, slD 2 encV (Sl.app av), .int .i64 on, .int .i64 less]]) :: g) := H.cons (r := n' + 3) (m := n' + 4) (by omega) (by omega) (tame_flat (by simp [flat_agg, flat1_slD, flat1_int]))
    have bq' : getO ((n' + 3, .row 4 [.agg [.int .i64 an, slD 2 encV (Sl.app av), .int .i64 on, .int .i64 less]]) :: g) q = .row 1 (v.map encN) := getO_keep bq (by omega)
    obtain ⟨G, hG⟩ : ∃ G, G = (q, Ob.row 1 (v.map encN)) :: delO ((n' + 3, .row 4 [.agg [.int .i64 an, slD 2 encV (Sl.app av), .int .i64 on, .int .i64 less]]) :: g) q := ⟨_, rfl⟩
    have hre := reach_row (q := 49) (len := na) (N := an) (s := Sl.app av) bq'
    have hsub : ∀ m, n' + 4 ≤ m → subC (callX (cFk kS Go.Proofs.Try.prog) (LX (cFk kS Go.Proofs.Try.prog))) [q] m ((n' + 3, .row 4 [.agg [.int .i64 an, slD 2 encV (Sl.app av), .int .i64 on, .int .i64 less]]) :: g) (.fn 49 [] []) [(D.agg [.int .i64 (an), slD 2 encV (Sl.app av)]), .ms 1 q 0 na false] = .ok (.int .i64 (lval ⟨an, av⟩ v)) (m + 1) G := fun m hm => by
      rw [hG, ← hre]
      exact evalD bq' hv hna (by omega) hav ra
    have kG : ∀ r, getO G r = getO ((n' + 3, .row 4 [.agg [.int .i64 an, slD 2 encV (Sl.app av), .int .i64 on, .int .i64 less]]) :: g) r := fun r => by rw [hG]; exact front_get bq'
    have WG : ∀ m, n' + 4 ≤ m → Wh lo b m G := fun m hm => by rw [hG]; exact (HB.mono hm).front (by omega)
    have hkeys : ∀ m, n' + 4 ≤ m → keysFrom m G = [] := fun m hm => keys_low ((WG m hm).good m (Nat.le_refl _))
    clear hG
    have kg : ∀ r, r < n' → getO G r = getO g r := fun r hr => (kG r).trans (getO_tl (by omega))
    have G14 : getO G (n' + 3) = .row 4 [.agg [.int .i64 an, slD 2 encV (Sl.app av), .int .i64 on, .int .i64 less]] := (kG _).trans getO_hd
    have G4 := (kg r4 (by omega)).trans b4
    have G5 := (kg r5 (by omega)).trans b5
    have G8 := (kg r8 (by omega)).trans b8
    have Gq := (kg q (by omega)).trans bq
    have hT := lval_low hv ra
    unfold l28_1
    by_cases y0 : on < 0
    · have e1 : qlm ⟨⟨an, av⟩, on, less⟩ = ⟨⟨an, av⟩, none, less⟩ := by unfold qlm; simp only [if_pos y0]
      rw [e1] at hmem htk
      by_cases y1 : lval ⟨an, av⟩ v > less
      · have hnot : ¬ NumsOk (qs.map qlm) v := fun h => by
          have := h _ hmem rfl
          replace this : lval ⟨an, av⟩ v ≤ less := this
          omega
        generalize lval ⟨an, av⟩ v = T at hsub hT y1
        have err5 : getO (setO G r4 (.row 1 [.nils])) r5 = .row 1 [.int .i64 0] := getO_set2 G4 G5 (by omega)
        simp (disch := first | assumption | omega | (simp (disch := first | assumption | omega) only [sB, Nat.reduceAdd, Nat.reduceLT, Nat.reduceLeDiff, Nat.reduceEqDiff, Nat.reduceMul, ↓reduceIte, app_el, hi]; done) | fail) only [sA, ↓reduceIte, Nat.reduceLT, Nat.reduceEqDiff, Nat.reduceAdd, Nat.reduceLeDiff, g4, g5, g8, g59, g60, g61, hW, encQ, y0, y1, b8, hre, hsub, hkeys, G14, G4, err5, apartR_cons, app_el, hi]
        exact ⟨_, _, _, _, rfl, .inr ⟨by simp, (((WG (n' + 4) (Nat.le_refl _)).set (tame_flat rfl)).set (tame_flat rfl)).mono (by omega), by simp (disch := first | assumption | omega | (simp (disch := first | assumption | omega) only [sB, Nat.reduceAdd, Nat.reduceLT, Nat.reduceLeDiff, Nat.reduceEqDiff, Nat.reduceMul, ↓reduceIte]; done) | fail) only [sA, ↓reduceIte, Nat.reduceLT, Nat.reduceEqDiff, Nat.reduceAdd, Nat.reduceLeDiff, g4], by simp (disch := first | assumption | omega | (simp (disch := first | assumption | omega) only [sB, Nat.reduceAdd, Nat.reduceLT, Nat.reduceLeDiff, Nat.reduceEqDiff, Nat.reduceMul, ↓reduceIte]; done) | fail) only [sA, ↓reduceIte, Nat.reduceLT, Nat.reduceEqDiff, Nat.reduceAdd, Nat.reduceLeDiff, g5], .inr ⟨rfl, hnot, getO_set2 err5 (getO_set1 G4) (by omega), getO_set1 err5⟩⟩⟩
      · have hok : NumsOk ((qs.take (i + 1)).map qlm) v := by
          rw [htk]
          intro x hx
          rcases List.mem_append.1 hx with hx | hx
          · exact hno x hx
          · rw [List.mem_singleton.1 hx]
            intro _
            show lval ⟨an, av⟩ v ≤ less
            omega
        generalize lval ⟨an, av⟩ v = T at hsub hT y1
        simp (disch := first | assumption | omega | (simp (disch := first | assumption | omega) only [sB, Nat.reduceAdd, Nat.reduceLT, Nat.reduceLeDiff, Nat.reduceEqDiff, Nat.reduceMul, ↓reduceIte, app_el, hi]; done) | fail) only [sA, ↓reduceIte, Nat.reduceLT, Nat.reduceEqDiff, Nat.reduceAdd, Nat.reduceLeDiff, g4, g5, g8, g59, g60, g61, hW, encQ, y0, y1, b8, hre, hsub, hkeys, G14, apartR_cons, app_el, hi]
        exact ⟨_, _, _, _, rfl, .inl ⟨rfl, WG _ (by omega), by omega, G4, G5, G8, Gq, hok, by simp (disch := first | assumption | omega | (simp (disch := first | assumption | omega) only [sB, Nat.reduceAdd, Nat.reduceLT, Nat.reduceLeDiff, Nat.reduceEqDiff, Nat.reduceMul, ↓reduceIte]; done) | fail) only [sA, ↓reduceIte, Nat.reduceLT, Nat.reduceEqDiff, Nat.reduceAdd, Nat.reduceLeDiff, g4], by simp (disch := first | assumption | omega | (simp (disch := first | assumption | omega) only [sB, Nat.reduceAdd, Nat.reduceLT, Nat.reduceLeDiff, Nat.reduceEqDiff, Nat.reduceMul, ↓reduceIte]; done) | fail) only [sA, ↓reduceIte, Nat.reduceLT, Nat.reduceEqDiff, Nat.reduceAdd, Nat.reduceLeDiff, g5], by simp (disch := first | assumption | omega | (simp (disch := first | assumption | omega) only [sB, Nat.reduceAdd, Nat.reduceLT, Nat.reduceLeDiff, Nat.reduceEqDiff, Nat.reduceMul, ↓reduceIte]; done) | fail) only [sA, ↓reduceIte, Nat.reduceLT, Nat.reduceEqDiff, Nat.reduceAdd, Nat.reduceLeDiff, g8], by simp (disch := first | assumption | omega | (simp (disch := first | assumption | omega) only [sB, Nat.reduceAdd, Nat.reduceLT, Nat.reduceLeDiff, Nat.reduceEqDiff, Nat.reduceMul, ↓reduceIte]; done) | fail) only [sA, ↓reduceIte, Nat.reduceLT, Nat.reduceEqDiff, Nat.reduceAdd, Nat.reduceLeDiff, g59], by simp (disch := first | assumption | omega | (simp (disch := first | assumption | omega) only [sB, Nat.reduceAdd, Nat.reduceLT, Nat.reduceLeDiff, Nat.reduceEqDiff, Nat.reduceMul, ↓reduceIte]; done) | fail) only [sA, ↓reduceIte, Nat.reduceLT, Nat.reduceEqDiff, Nat.reduceAdd, Nat.reduceLeDiff, g60], by simp (disch := first | assumption | omega | (simp (disch := first | assumption | omega) only [sB, Nat.reduceAdd, Nat.reduceLT, Nat.reduceLeDiff, Nat.reduceEqDiff, Nat.reduceMul, ↓reduceIte]; done) | fail) only [sA, ↓reduceIte, Nat.reduceLT, Nat.reduceEqDiff, Nat.reduceAdd, Nat.reduceLeDiff]⟩⟩
    · have hok : NumsOk ((qs.take (i + 1)).map qlm) v := by
        rw [htk]
        intro x hx
        rcases List.mem_append.1 hx with hx | hx
        · exact hno x hx
        · rw [List.mem_singleton.1 hx]
          intro h
          unfold qlm at h
          simp only [if_neg y0] at h
          cases h
      simp (disch := first | assumption | omega | (simp (disch := first | assumption | omega) only [sB, Nat.reduceAdd, Nat.reduceLT, Nat.reduceLeDiff, Nat.reduceEqDiff, Nat.reduceMul, ↓reduceIte, app_el, hi]; done) | fail) only [sA, ↓reduceIte, Nat.reduceLT, Nat.reduceEqDiff, Nat.reduceAdd, Nat.reduceLeDiff, g4, g5, g8, g59, g60, g61, hW, encQ, y0, app_el, hi]
      exact ⟨_, _, _, _, rfl, .inl ⟨rfl, HB.mono (by omega), by omega, getO_keep b4 (by omega), getO_keep b5 (by omega), getO_keep b8 (by omega), bq', hok, by simp (disch := first | assumption | omega | (simp (disch := first | assumption | omega) only [sB, Nat.reduceAdd, Nat.reduceLT, Nat.reduceLeDiff, Nat.reduceEqDiff, Nat.reduceMul, ↓reduceIte]; done) | fail) only [sA, ↓reduceIte, Nat.reduceLT, Nat.reduceEqDiff, Nat.reduceAdd, Nat.reduceLeDiff, g4], by simp (disch := first | assumption | omega | (simp (disch := first | assumption | omega) only [sB, Nat.reduceAdd, Nat.reduceLT, Nat.reduceLeDiff, Nat.reduceEqDiff, Nat.reduceMul, ↓reduceIte]; done) | fail) only [sA, ↓reduceIte, Nat.reduceLT, Nat.reduceEqDiff, Nat.reduceAdd, Nat.reduceLeDiff, g5], by simp (disch := first | assumption | omega | (simp (disch := first | assumption | omega) only [sB, Nat.reduceAdd, Nat.reduceLT, Nat.reduceLeDiff, Nat.reduceEqDiff, Nat.reduceMul, ↓reduceIte]; done) | fail) only [sA, ↓reduceIte, Nat.reduceLT, Nat.reduceEqDiff, Nat.reduceAdd, Nat.reduceLeDiff, g8], by simp (disch := first | assumption | omega | (simp (disch := first | assumption | omega) only [sB, Nat.reduceAdd, Nat.reduceLT, Nat.reduceLeDiff, Nat.reduceEqDiff, Nat.reduceMul, ↓reduceIte]; done) | fail) only [sA, ↓reduceIte, Nat.reduceLT, Nat.reduceEqDiff, Nat.reduceAdd, Nat.reduceLeDiff, g59], by simp (disch := first | assumption | omega | (simp (disch := first | assumption | omega) only [sB, Nat.reduceAdd, Nat.reduceLT, Nat.reduceLeDiff, Nat.reduceEqDiff, Nat.reduceMul, ↓reduceIte]; done) | fail) only [sA, ↓reduceIte, Nat.reduceLT, Nat.reduceEqDiff, Nat.reduceAdd, Nat.reduceLeDiff, g60], by simp (disch := first | assumption | omega | (simp (disch := first | assumption | omega) only [sB, Nat.reduceAdd, Nat.reduceLT, Nat.reduceLeDiff, Nat.reduceEqDiff, Nat.reduceMul, ↓reduceIte]; done) | fail) only [sA, ↓reduceIte, Nat.reduceLT, Nat.reduceEqDiff, Nat.reduceAdd, Nat.reduceLeDiff]⟩⟩

end Go.Proofs.Ytjagmfgjlfkmgaa
