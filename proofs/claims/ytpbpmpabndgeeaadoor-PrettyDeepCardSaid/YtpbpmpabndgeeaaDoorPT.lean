/- The printer: its builder. No condition but lengths. -/
import Derived.Test.YtpbpmpabndgeeaaDoorPW
set_option linter.unusedSimpArgs false
set_option linter.unusedVariables false
namespace Go.Proofs.YtpbpmpabndgeeaaDoor
open Go

theorem LX_own {F : Nat → DFn} {j : Nat} {e : Tr} {n : Nat} {h : Hps} : LX F (.own j) e n h = ownR tPr j e n h := by rw [LX_eq]; rfl
def Pst (r : Nat) (S : List Nat) (q : Nat) (h : Hps) : Prop :=
  (S = [] ∧ q = r ∧ ∃ a,getO h r = .tob tPr (.agg [a,.nils]) ∧ (a = .nilp ∨ a = .ptr r 0 0)) ∨ (S ≠ [] ∧ q ≠ r ∧ getO h r = .tob tPr (.agg [.ptr r 0 0,.ms 1 q 0 S.length false]) ∧ getO h q = .byt (strL S))
theorem tob_r {n t : Nat} {a b : D} : obR1 n (.tob t (.agg [a,b])) = (hasR n 19 a || hasR n 19 b) := by
  show Bool.not (allL (fun d => Bool.not (hasR n 19 d)) [a,b]) = _
  rw [allL_eq,List.all_cons,List.all_cons,List.all_nil]
  cases hasR n 19 a <;> cases hasR n 19 b <;> rfl
theorem r_ptr {n f r i j : Nat} : hasR n (f + 1) (.ptr r i j) = Nat.ble n r := rfl
theorem low_bytes2 {m : Nat} {S : List Nat} : lowO m (.byt (strL S)) := by
  show Bool.not (allL (fun d => Bool.not (hasR m 20 d)) (strL S)) = false
  rw [allL_eq]
  have : (strL S).all (fun d => Bool.not (hasR m 20 d)) = true := by
    induction S with
    | nil => rfl
    | cons c S ih =>
      show ((fun d => Bool.not (hasR m 20 d)) (.int .u8 (.ofNat c)) && (strL S).all _) = true
      rw [ih]; rfl
  rw [this]; rfl
theorem strL_app {S T : List Nat} : strL S ++ strL T = strL (S ++ T) := by
  induction S with
  | nil => rfl
  | cons c S ih => exact congrArg (D.int .u8 (.ofNat c) :: ·) ih
section
variable {n : Nat} {h : Hps}
theorem ccFresh (hg : Gd n h) {r : Nat} {b : D} (hr : getO h r = .tob tPr (.agg [.nilp,b])) (hb : ∀ k,n ≤ k → hasR k 19 b = false) : callFn (LX (cF Tryd.prog)) n h [.ptr r 0 0] (cF Tryd.prog 50) = .ok (.tup []) n (setO h r (.tob tPr (.agg [.ptr r 0 0,b]))) := by
  have hgn := hg n (Nat.le_refl _)
  have hrn : r < n := getO_low hgn (by rw [hr]; exact fun e => by cases e)
  rw [f50_eq]; unfold c50; rw [callFn_eq (by rfl),LX_own]
  show finish n [] (bldO tPr (getO h r) fun a b => bufAddr r n h (argsT [.ptr r 0 0] [po 0]) tPr a b) = _
  rw [hr]
  show finishD n (n + 1) (setO h r (.tob tPr (.agg [.ptr r 0 0,b]))) (.tup []) = _
  have hx : ∀ k,n ≤ k → obR1 k (.tob tPr (.agg [.ptr r 0 0,b])) = false := fun k hk => by
    rw [tob_r,hb k hk,r_ptr,ble_iff,decide_eq_false (by omega)]; rfl
  exact finish_flat (d := .tup []) rfl (((Hp.start hg).setLow hrn (hx n (Nat.le_refl _)) (fun k hk => hx k hk)).mono (by omega))
theorem ccUsed (hg : Gd n h) {r : Nat} {b : D} (hr : getO h r = .tob tPr (.agg [.ptr r 0 0,b])) : callFn (LX (cF Tryd.prog)) n h [.ptr r 0 0] (cF Tryd.prog 50) = .ok (.tup []) n h := by
  rw [f50_eq]; unfold c50; rw [callFn_eq (by rfl),LX_own]
  show finish n [] (bldO tPr (getO h r) fun a b => bufAddr r n h (argsT [.ptr r 0 0] [po 0]) tPr a b) = _
  rw [hr]
  show finish n [] (Bool.rec (motive := fun _ => Re) .bad (.ok .ret (argsT [.ptr r 0 0] [po 0]) n h) (Bool.and (Nat.beq r r) (Bool.and (Nat.beq 0 0) (Nat.beq 0 0)))) = _
  rw [Nat.beq_refl]
  show finishD n n h (.tup []) = _
  exact finish_flat (d := .tup []) rfl (Hp.start hg)
end
theorem opC_apps {call : CallF} {e : Tr} {n : Nat} {h : Hps} {s x : Opd} : opC call e n h (.apps s x) = appsD n h (ev e s) (ev e x) := eqOf rfl
theorem loadR_tob1 {n t : Nat} {h : Hps} {a b : D} {k : Nat} : loadR false k 0 1 n h (.tob t (.agg [a,b])) = okD n h b := eqOf rfl
theorem storeR_tob1 {n t r k : Nat} {h : Hps} {a b x : D} (hx : one x = true) : storeR false k r 0 1 x n h (.tob t (.agg [a,b])) = .ok .junk n (setO h r (.tob t (.agg [a,x]))) := by
  show storeT t r 0 n h (setA false k 1 [a,b] x) = _
  have e : setA false k 1 [a,b] x = .agg [a,x] := by
    have : setA false k 1 [a,b] x = setA1 1 [a,b] x := by cases x <;> first | rfl | cases hx
    rw [this]
    show Bool.rec (motive := fun _ => D) .junk (.agg [a,x]) (Bool.and (one x) true) = _
    rw [hx]; rfl
  rw [e]
  rfl
theorem apps_nil {n : Nat} {h : Hps} {s : List Nat} (hs : s ≠ []) (hl : s.length < 1000000000) : appsD n h .nils (.str s) = .ok (.ms 1 n 0 s.length false) n ((n,.byt (strL s)) :: h) := by
  cases s with
  | nil => exact absurd rfl hs
  | cons c s =>
    show ifR (Nat.ble (lenL (strL (c :: s)) * 1) most) (.ok (.ms 1 n 0 (lenL (strL (c :: s))) false) n ((n,.byt (strL (c :: s))) :: h)) = _
    rw [lenL_eq,strL_len,ble_iff,show most = 140737488355328 from rfl,decide_eq_true (by omega)]
    rfl
theorem apps_ms {n q m : Nat} {h : Hps} {S s : List Nat} (hs : s ≠ []) (hg : getO h q = .byt (strL S)) (hm : m = S.length) (hl : S.length + s.length < 1000000000) : appsD n h (.ms 1 q 0 m false) (.str s) = .ok (.ms 1 n 0 (S ++ s).length false) n ((n,.byt (strL (S ++ s))) :: delO h q) := by
  subst hm
  cases s with
  | nil => exact absurd rfl hs
  | cons c s =>
    show ifR (Nat.beq 1 1) (appsR n h q 0 S.length false (strL (c :: s)) (getO h q)) = _
    rw [hg]
    show ifR (Bool.and (Bool.not false) (Bool.and (Nat.beq 0 0) (Bool.and (Nat.beq S.length (lenL (strL S))) (Nat.ble ((lenL (strL S) + lenL (strL (c :: s))) * 1) most)))) (.ok (.ms 1 n 0 (lenL (strL S) + lenL (strL (c :: s))) false) n ((n,.byt (appL (strL S) (strL (c :: s)))) :: delO h q)) = _
    rw [lenL_eq,lenL_eq,strL_len,strL_len,show Nat.beq S.length S.length = true from Nat.beq_refl _,ble_iff,show most = 140737488355328 from rfl,decide_eq_true (by omega),appL_eq,strL_app,List.length_append]
    rfl
theorem lenS_str {n : Nat} {h : Hps} {s : List Nat} : lenS n h (.str s) = .ok (.int .i64 (s.length : Nat)) n h := by
  show lenI n h (lenN s) = _
  rw [lenN_eq]; rfl
theorem lenD_str1 {n : Nat} {h : Hps} {s : List Nat} : lenD n h .str (.str s) = .ok (.int .i64 (s.length : Nat)) n h := lenS_str
theorem pst_end {n m n1 : Nat} {h g : Hps} (hg : Gd n g) (hm : n ≤ m) (hmn : m < n1) {r q : Nat} (hr : r < n) (hx : getO g r ≠ .none) (hk : ∀ y,y ≠ r → y ≠ q → getO g y = getO h y) {S : List Nat} (hne : S ≠ []) {d : D} {C : Nat} (hC : n1 ≤ n + C) :
    ∃ n' h' q',finishD n n1 ((m,.byt (strL S)) :: setO g r (.tob tPr (.agg [.ptr r 0 0,.ms 1 m 0 S.length false]))) d = .ok d n' h' ∧ Stp n h n' h' r q ∧ Pst r S q' h' ∧ n ≤ q' ∧ q' < n' ∧ n' ≤ n + C := by
  have e1 : getO ((m,.byt (strL S)) :: setO g r (.tob tPr (.agg [.ptr r 0 0,.ms 1 m 0 S.length false]))) r = .tob tPr (.agg [.ptr r 0 0,.ms 1 m 0 S.length false]) := by
    rw [getO_tl (by omega),getO_setO _ _ _ _ hx,if_pos rfl]
  refine ⟨n1,_,m,finish_leak (leak_at hr e1 (by rw [tob_r,r_ms,ble_iff n m,decide_eq_true hm,Bool.or_true])),⟨by omega,fun k hk2 => ?_,fun x h1 h2 h3 => ?_⟩,.inr ⟨hne,by omega,e1,getO_hd⟩,hm,hmn,hC⟩
  · refine good_cons.2 ⟨by omega,low_bytes2,good_set (hg k (by omega)) ?_⟩
    unfold lowO
    rw [tob_r,r_ms,r_ptr,ble_iff,decide_eq_false (by omega),ble_iff,decide_eq_false (by omega)]
    rfl
  · rw [getO_tl (by omega),getO_setO _ _ _ _ hx,if_neg h2,hk x h2 h3]
set_option maxHeartbeats 4000000 in
theorem pWS {n : Nat} {h : Hps} (hg : Gd n h) {r q : Nat} {S : List Nat} (P : Pst r S q h) {s : List Nat} (hs : s ≠ []) (hl : S.length + s.length < 1000000000) :
    ∃ n' h' q',callFn (LX (cF Tryd.prog)) n h [.ptr r 0 0,.str s] (cF Tryd.prog 45) = .ok (.tup [.int .i64 (s.length : Nat),.nili]) n' h' ∧ Stp n h n' h' r q ∧ Pst r (S ++ s) q' h' ∧ n ≤ q' ∧ q' < n' ∧ n' ≤ n + 30 := by
  have hgn := hg n (Nat.le_refl _)
  have hG : ∀ m,n ≤ m → Gd m h := fun m hm => hg.mono hm
  rcases P with ⟨rfl,rfl,a,g1,ha⟩ | ⟨hne,hqr,g1,g2⟩
  · have hq : q < n := getO_low hgn (by rw [g1]; exact fun e => by cases e)
    have st := fun m g => storeR_tob1 (n := m) (h := g) (t := tPr) (r := q) (k := 1) (a := .ptr q 0 0) (b := .nils) (x := .ms 1 (n + 11) 0 s.length false) rfl
    have ll : ∀ k,n ≤ k → obR1 k (.tob tPr (.agg [.ptr q 0 0,.nils])) = false := fun k hk => by
      rw [tob_r,r_ptr,ble_iff,decide_eq_false (by omega)]; rfl
    have a1 := fun m g => apps_nil (n := m) (h := g) hs (by omega)
    rcases ha with rfl | rfl
    · have c1 := fun m (hm : n ≤ m) => ccFresh (hG m hm) g1 (fun _ _ => rfl)
      have d1 : getO (setO h q (.tob tPr (.agg [.ptr q 0 0,.nils]))) q = .tob tPr (.agg [.ptr q 0 0,.nils]) := by rw [getO_setO _ _ _ _ (by rw [g1]; exact fun e => by cases e),if_pos rfl]
      rw [f45_eq]; unfold c45; rw [callFn_eq (by rfl)]
      simp (disch:=first|assumption|omega|(simp (disch:=first|assumption|omega) only [sB,Nat.reduceAdd,Nat.reduceLT,Nat.reduceLeDiff,Nat.reduceEqDiff,Nat.reduceMul,↓reduceIte,getO_tl];done)|fail) only [sA,↓reduceIte,Nat.reduceLT,Nat.reduceEqDiff,Nat.reduceAdd,Nat.reduceLeDiff,c1,g1,opC_apps,loadR_tob1,a1,d1,st,lenD_str1,getO_tl]
      refine pst_end (S := s) (fun k hk => good_set (hg k hk) (ll k hk)) ?_ ?_ hq (by rw [d1]; exact fun e => by cases e) (fun y h1 h2 => by rw [getO_setO _ _ _ _ (by rw [g1]; exact fun e => by cases e),if_neg h1]) hs ?_ <;> omega
    · have c1 := fun m (hm : n ≤ m) => ccUsed (hG m hm) g1
      rw [f45_eq]; unfold c45; rw [callFn_eq (by rfl)]
      simp (disch:=first|assumption|omega|(simp (disch:=first|assumption|omega) only [sB,Nat.reduceAdd,Nat.reduceLT,Nat.reduceLeDiff,Nat.reduceEqDiff,Nat.reduceMul,↓reduceIte,getO_tl];done)|fail) only [sA,↓reduceIte,Nat.reduceLT,Nat.reduceEqDiff,Nat.reduceAdd,Nat.reduceLeDiff,c1,g1,opC_apps,loadR_tob1,a1,st,lenD_str1,getO_tl]
      refine pst_end (S := s) hg ?_ ?_ hq (by rw [g1]; exact fun e => by cases e) (fun y h1 h2 => rfl) hs ?_ <;> omega
  · have hr : r < n := getO_low hgn (by rw [g1]; exact fun e => by cases e)
    have hq : q < n := getO_low hgn (by rw [g2]; exact fun e => by cases e)
    have c1 := fun m (hm : n ≤ m) => ccUsed (hG m hm) g1
    have d1 : getO (delO h q) r = .tob tPr (.agg [.ptr r 0 0,.ms 1 q 0 S.length false]) := by rw [getO_delO,if_neg (fun e => hqr e.symm)]; exact g1
    have a1 := fun m => apps_ms (n := m) hs g2 rfl hl
    have st := fun m g => storeR_tob1 (n := m) (h := g) (t := tPr) (r := r) (k := 1) (a := .ptr r 0 0) (b := .ms 1 q 0 S.length false) (x := .ms 1 (n + 11) 0 (S ++ s).length false) rfl
    rw [f45_eq]; unfold c45; rw [callFn_eq (by rfl)]
    simp (disch:=first|assumption|omega|(simp (disch:=first|assumption|omega) only [sB,Nat.reduceAdd,Nat.reduceLT,Nat.reduceLeDiff,Nat.reduceEqDiff,Nat.reduceMul,↓reduceIte,getO_tl];done)|fail) only [sA,↓reduceIte,Nat.reduceLT,Nat.reduceEqDiff,Nat.reduceAdd,Nat.reduceLeDiff,c1,g1,opC_apps,loadR_tob1,a1,d1,st,lenD_str1,getO_tl]
    refine pst_end (S := S ++ s) (g := delO h q) (fun k hk => good_del (hg k hk)) ?_ ?_ hr (by rw [d1]; exact fun e => by cases e) (fun y h1 h2 => by rw [getO_delO,if_neg h2]) (by simp [hs]) ?_ <;> omega
end Go.Proofs.YtpbpmpabndgeeaaDoor
