/- The bytes of a term of few parts: what the writer does. No condition but lengths. -/
import Derived.Test.YtpbpmpabndgeeaaDoorTJ
import Derived.Test.YtpbpmpabndgeeaaDoorCP
set_option linter.unusedSimpArgs false
set_option linter.unusedVariables false
namespace Go.Proofs.YtpbpmpabndgeeaaDoor
open Go

structure Stp (n : Nat) (h : Hps) (n' : Nat) (h' : Hps) (r q : Nat) : Prop where
  le : n ≤ n'
  good : Gd n' h'
  keep : ∀ x,x < n → x ≠ r → x ≠ q → getO h' x = getO h x
def byt (v : Int) : D := .int .u8 v
def Wst (r : Nat) (L : List D) (q : Nat) (h : Hps) : Prop :=
  (∀ d,d ∈ L → ∃ v,d = byt v) ∧ ((L = [] ∧ q = r ∧ getO h r = .row 1 [.agg [.nils]]) ∨ (L ≠ [] ∧ q ≠ r ∧ getO h r = .row 1 [.agg [.ms 1 q 0 L.length false]] ∧ getO h q = .row 1 L))
theorem leak_iff {h : Hps} {n : Nat} : leak n h = false ↔ ∀ p,p ∈ h → p.1 < n → lowO n p.2 := by
  induction h with
  | nil => exact ⟨fun _ p hp => (by cases hp),fun _ => rfl⟩
  | cons a t ih =>
    obtain ⟨q,o⟩ := a
    by_cases e : q < n
    · rw [leak_old e,Bool.or_eq_false_iff,ih]
      constructor
      · rintro ⟨h1,h2⟩ p hp hq
        rcases List.mem_cons.1 hp with rfl | hp
        · exact h1
        · exact h2 p hp hq
      · intro H
        exact ⟨H (q,o) (by simp) e,fun p hp => H p (by simp [hp])⟩
    · rw [leak_new (by omega),ih]
      constructor
      · intro H p hp hq
        rcases List.mem_cons.1 hp with rfl | hp
        · exact absurd hq e
        · exact H p hp hq
      · intro H p hp; exact H p (by simp [hp])
theorem finish_leak {n m : Nat} {h : Hps} {d : D} (hl : leak n h = true) : finishD n m h d = .ok d m h := by
  unfold finishD
  rw [hl,Bool.or_true]
theorem getO_mem {r : Nat} : ∀ {h : Hps},getO h r ≠ .none → (r,getO h r) ∈ h
  | [],e => absurd rfl e
  | (q,o) :: t,e => by
    by_cases hq : q = r
    · subst hq; rw [getO_hd]; exact List.mem_cons_self
    · rw [getO_tl hq] at e ⊢; exact List.mem_cons_of_mem _ (getO_mem e)
theorem leak_at {n s : Nat} {h : Hps} {o : Ob} (hs : s < n) (e : getO h s = o) (ho : obR1 n o = true) : leak n h = true := by
  cases hl : leak n h with
  | true => rfl
  | false =>
    have hne : getO h s ≠ .none := by intro e2; rw [e] at e2; subst e2; cases ho
    have := leak_iff.1 hl _ (getO_mem hne) hs
    rw [e] at this
    unfold lowO at this
    rw [ho] at this
    cases this
theorem r_ms {n f k r o l : Nat} {b : Bool} : hasR n (f + 1) (.ms k r o l b) = Nat.ble n r := rfl
theorem box_r {n m k : Nat} : obR1 n (.row 1 [.agg [.ms 1 m 0 k false]]) = Nat.ble n m := by
  have h1 : hasR n 20 (.agg [.ms 1 m 0 k false]) = Bool.not ([D.ms 1 m 0 k false].all fun d => Bool.not (hasR n 19 d)) := by
    show Bool.not (allL _ _) = _
    rw [allL_eq]; rfl
  have h3 : obR1 n (.row 1 [.agg [.ms 1 m 0 k false]]) = Bool.not ([D.agg [.ms 1 m 0 k false]].all fun d => Bool.not (hasR n 20 d)) := by
    show Bool.not (allL _ _) = _
    rw [allL_eq]
  rw [h3,List.all_cons,List.all_nil,h1,List.all_cons,r_ms]
  cases Nat.ble n m <;> rfl
theorem low_bytes {m : Nat} {L : List D} (hL : ∀ d,d ∈ L → ∃ v,d = byt v) : lowO m (.row 1 L) := lowO_row (fun d hd => by
  obtain ⟨v,rfl⟩ := hL d hd
  rfl)
theorem wst_end {n m n1 : Nat} {h g : Hps} (hg : Gd n g) (hm : n ≤ m) (hmn : m < n1) {r q : Nat} (hr : r < n) (hx : getO g r ≠ .none) (hk : ∀ y,y ≠ q → getO g y = getO h y) {L : List D} (hne : L ≠ []) (hL : ∀ d,d ∈ L → ∃ v,d = byt v) {d : D} :
    ∃ n' h' q',finishD n n1 ((m,.row 1 L) :: setO g r (.row 1 [.agg [.ms 1 m 0 L.length false]])) d = .ok d n' h' ∧ Stp n h n' h' r q ∧ Wst r L q' h' ∧ n ≤ q' ∧ q' < n' := by
  have e1 : getO ((m,.row 1 L) :: setO g r (.row 1 [.agg [.ms 1 m 0 L.length false]])) r = .row 1 [.agg [.ms 1 m 0 L.length false]] := by
    rw [getO_tl (by omega),getO_setO _ _ _ _ hx,if_pos rfl]
  refine ⟨n1,_,m,finish_leak (leak_at hr e1 (by rw [box_r,ble_iff,decide_eq_true hm])),⟨by omega,fun k hk2 => ?_,fun x h1 h2 h3 => ?_⟩,⟨hL,.inr ⟨hne,by omega,e1,getO_hd⟩⟩,hm,hmn⟩
  · refine good_cons.2 ⟨by omega,low_bytes hL,good_set (hg k (by omega)) ?_⟩
    unfold lowO
    rw [box_r,ble_iff,decide_eq_false (by omega)]
  · rw [getO_tl (by omega),getO_setO _ _ _ _ hx,if_neg h2,hk x h3]
theorem wNum {n : Nat} {h : Hps} (hg : Gd n h) {r q : Nat} {L : List D} (W : Wst r L q h) (hL : L.length < 1000000) {v : Int} (h0 : 0 ≤ v) (h1 : v < 128) :
    ∃ n' h' q',callFn (LX (cF Tryd.prog)) n h [.ptr r 0 0,.int .i64 v] (cF Tryd.prog 32) = .ok (.tup []) n' h' ∧ Stp n h n' h' r q ∧ Wst r (L ++ [byt v]) q' h' ∧ n ≤ q' ∧ q' < n' := by
  have hgn := hg n (Nat.le_refl _)
  have w1 : IntKind.u64.wrap v = v := by simp [IntKind.wrap,IntKind.bits,IntKind.signed]; omega
  have w2 : IntKind.u8.wrap v = v := by simp [IntKind.wrap,IntKind.bits,IntKind.signed]; omega
  have b1 : binD .lss (.int .u64 v) (.int .u64 128) = .bool true := by
    show D.bool (ltI v 128) = _
    rw [ltI_eq,decide_eq_true h1]
  have b2 : ∀ m g,bslD m g 1 [.int .u8 v] = .ok (.sl 1 [.int .u8 v] [] true) m g := fun m g => bsl_one rfl
  obtain ⟨hf,W⟩ := W
  rcases W with ⟨rfl,rfl,g1⟩ | ⟨hne,hqr,g1,g2⟩
  · have a1 : ∀ m g,appD m g 1 1 .nils (.ok 1 [.int .u8 v]) = .ok (.ms 1 m 0 1 false) m ((m,.row 1 [.int .u8 v]) :: g) := fun m g => appD_nils (xt := []) (by decide)
    have hq : q < n := getO_low hgn (by rw [g1]; simp)
    rw [f32_eq]; unfold c32; rw [callFn_eq (by rfl)]
    simp (disch:=first|assumption|omega|(simp (disch:=first|assumption|omega) only [sB,Nat.reduceAdd,Nat.reduceLT,Nat.reduceLeDiff,Nat.reduceEqDiff,Nat.reduceMul,↓reduceIte];done)|fail) only [sA,↓reduceIte,Nat.reduceLT,Nat.reduceEqDiff,Nat.reduceAdd,Nat.reduceLeDiff,g1,cviD,wr,w1]
    rw [LX_loop]
    unfold l32_0
    simp (disch:=first|assumption|omega|(simp (disch:=first|assumption|omega) only [sB,Nat.reduceAdd,Nat.reduceLT,Nat.reduceLeDiff,Nat.reduceEqDiff,Nat.reduceMul,↓reduceIte,getO_tl];done)|fail) only [sA,↓reduceIte,Nat.reduceLT,Nat.reduceEqDiff,Nat.reduceAdd,Nat.reduceLeDiff,g1,cviD,wr,w2,b1,b2,a1,getO_tl]
    exact wst_end hg (by omega) (by omega) hq (by rw [g1]; simp) (fun _ _ => rfl) (L := [byt v]) (by simp) (fun d hd => ⟨v,by simpa using hd⟩)
  · have hr : r < n := getO_low hgn (by rw [g1]; simp)
    have hq : q < n := getO_low hgn (by rw [g2]; simp)
    have a1 : ∀ m g,appD m g 1 1 (.ms 1 q 0 L.length false) (.ok 1 [.int .u8 v]) = appR m g 1 1 q 0 L.length false [.int .u8 v] (getO g q) := fun m g => appD_un rfl
    have a2 : ∀ m g,appR m g 1 1 q 0 L.length false [.int .u8 v] (.row 1 L) = .ok (.ms 1 m 0 (L.length + 1) false) m ((m,.row 1 (L ++ [.int .u8 v])) :: delO g q) := fun m g => appR_row rfl (by omega)
    have d1 : getO (delO h q) r = .row 1 [.agg [.ms 1 q 0 L.length false]] := by rw [getO_delO,if_neg (fun e => hqr e.symm)]; exact g1
    rw [f32_eq]; unfold c32; rw [callFn_eq (by rfl)]
    simp (disch:=first|assumption|omega|(simp (disch:=first|assumption|omega) only [sB,Nat.reduceAdd,Nat.reduceLT,Nat.reduceLeDiff,Nat.reduceEqDiff,Nat.reduceMul,↓reduceIte];done)|fail) only [sA,↓reduceIte,Nat.reduceLT,Nat.reduceEqDiff,Nat.reduceAdd,Nat.reduceLeDiff,g1,cviD,wr,w1]
    rw [LX_loop]
    unfold l32_0
    simp (disch:=first|assumption|omega|(simp (disch:=first|assumption|omega) only [sB,Nat.reduceAdd,Nat.reduceLT,Nat.reduceLeDiff,Nat.reduceEqDiff,Nat.reduceMul,↓reduceIte,getO_tl];done)|fail) only [sA,↓reduceIte,Nat.reduceLT,Nat.reduceEqDiff,Nat.reduceAdd,Nat.reduceLeDiff,g1,g2,d1,cviD,wr,w2,b1,b2,a1,a2,getO_tl]
    have E := wst_end (h := h) (g := delO h q) (n := n) (m := n + 13) (n1 := n + 17) (r := r) (q := q) (L := L ++ [byt v]) (d := .tup []) (fun k hk => good_del (hg k hk)) (by omega) (by omega) hr (by rw [d1]; simp) (fun y hy => by rw [getO_delO,if_neg hy]) (by simp) (fun d hd => by
      rcases List.mem_append.1 hd with hd | hd
      · exact hf d hd
      · exact ⟨v,by simpa using hd⟩)
    rw [List.length_append] at E
    exact E
def WOk (n : Nat) (h : Hps) (r q : Nat) (L : List D) (c : Nat) (res : Rd) : Prop := ∃ n' h' q' L',res = .ok (.tup []) n' h' ∧ Stp n h n' h' r q ∧ Wst r L' q' h' ∧ n ≤ q' ∧ q' < n' ∧ L'.length = L.length + c
theorem wNum' {n : Nat} {h : Hps} (hg : Gd n h) {r q : Nat} {L : List D} (W : Wst r L q h) (hL : L.length < 1000000) {v : Int} (h0 : 0 ≤ v) (h1 : v < 128) : WOk n h r q L 1 (callFn (LX (cF Tryd.prog)) n h [.ptr r 0 0,.int .i64 v] (cF Tryd.prog 32)) := by
  obtain ⟨n',h',q',e1,e2,e3,e4,e5⟩ := wNum hg W hL h0 h1
  exact ⟨n',h',q',_,e1,e2,e3,e4,e5,by simp⟩
theorem Wst.lt {n : Nat} {h : Hps} (hg : Gd n h) {r q : Nat} {L : List D} (W : Wst r L q h) : r < n ∧ q < n := by
  have hgn := hg n (Nat.le_refl _)
  rcases W.2 with ⟨_,rfl,g1⟩ | ⟨_,_,g1,g2⟩
  · have := getO_low hgn (r := q) (by rw [g1]; simp)
    exact ⟨this,this⟩
  · exact ⟨getO_low hgn (by rw [g1]; simp),getO_low hgn (by rw [g2]; simp)⟩
theorem Wst.cons {n : Nat} {h : Hps} (hg : Gd n h) {r q x : Nat} {L : List D} {o : Ob} (W : Wst r L q h) (hx : n ≤ x) : Wst r L q ((x,o) :: h) := by
  obtain ⟨hr,hq⟩ := W.lt hg
  refine ⟨W.1,?_⟩
  rcases W.2 with ⟨a,b,g1⟩ | ⟨a,b,g1,g2⟩
  · exact .inl ⟨a,b,by rw [getO_tl (by omega)]; exact g1⟩
  · exact .inr ⟨a,b,by rw [getO_tl (by omega)]; exact g1,by rw [getO_tl (by omega)]; exact g2⟩
theorem Wst.len {n n' : Nat} {h : Hps} {r q : Nat} {L : List D} (W : Wst r L q h) {b : D} (hb : getO h r = .row 1 [.agg [b]]) : lenD n' h .slice b = .ok (.int .i64 (L.length : Nat)) n' h := by
  rcases W.2 with ⟨rfl,_,g1⟩ | ⟨_,_,g1,_⟩
  · rw [g1] at hb; cases hb; rfl
  · rw [g1] at hb; cases hb; rfl
theorem Wst.get {h : Hps} {r q : Nat} {L : List D} (W : Wst r L q h) : ∃ b,getO h r = .row 1 [.agg [b]] ∧ ∀ m g,okD m g b = .ok b m g ∧ lenD m g .slice b = .ok (.int .i64 (L.length : Nat)) m g := by
  rcases W.2 with ⟨rfl,_,g1⟩ | ⟨_,_,g1,_⟩
  · exact ⟨_,g1,fun m g => ⟨rfl,rfl⟩⟩
  · exact ⟨_,g1,fun m g => ⟨rfl,rfl⟩⟩
theorem wst_fin {n n2 : Nat} {h : Hps} {r q : Nat} {L : List D} {d : D} (W : Wst r L q h) (hr : r < n) (hq : n ≤ q) : finishD n n2 h d = .ok d n2 h := by
  rcases W.2 with ⟨_,rfl,_⟩ | ⟨_,_,g1,_⟩
  · omega
  · exact finish_leak (leak_at hr g1 (by rw [box_r,ble_iff,decide_eq_true hq]))
theorem wok_end {n n2 : Nat} {h h2 : Hps} {r q q2 : Nat} {L L2 : List D} {c : Nat} (hr : r < n) (W2 : Wst r L2 q2 h2) (hq : n ≤ q2) (hq2 : q2 < n2) (hl : L2.length = L.length + c) (hg : Gd n2 h2) (hk : ∀ x,x < n → x ≠ r → x ≠ q → getO h2 x = getO h x) :
    WOk n h r q L c (finishD n n2 h2 (.tup [])) :=
  ⟨n2,h2,q2,L2,wst_fin W2 hr hq,⟨by omega,hg,hk⟩,W2,hq,hq2,hl⟩
theorem pBit (b : Bool) (n : Nat) (h : Hps) (hg : Gd n h) : callFn (LX (cF Tryd.prog)) n h [.bool b] (cF Tryd.prog 34) = .ok (.int .i64 (if b then 1 else 0)) n h := by
  have hgn := hg n (Nat.le_refl _)
  rw [f34_eq]; unfold c34; rw [callFn_eq (by rfl)]
  cases b with
  | true => simp (disch:=first|assumption|omega|(simp (disch:=first|assumption|omega) only [sB,Nat.reduceAdd,Nat.reduceLT,Nat.reduceLeDiff,Nat.reduceEqDiff,Nat.reduceMul,↓reduceIte];done)|fail) only [sA,↓reduceIte,Nat.reduceLT,Nat.reduceEqDiff,Nat.reduceAdd,Nat.reduceLeDiff]
  | false => simp (disch:=first|assumption|omega|(simp (disch:=first|assumption|omega) only [sB,Nat.reduceAdd,Nat.reduceLT,Nat.reduceLeDiff,Nat.reduceEqDiff,Nat.reduceMul,↓reduceIte];done)|fail) only [sA,↓reduceIte,Nat.reduceLT,Nat.reduceEqDiff,Nat.reduceAdd,Nat.reduceLeDiff]; rfl
def varT (k : Int) : Tm := .mk 1 k false [] (Sl.app []) true false [] []
def set0 : Tm := .mk 2 0 false [] ⟨false,true,[⟨0,Sl.app []⟩],[]⟩ true false [] []
def lamT (hid : Bool) (b : Tm) : Tm := .mk 4 0 hid [] (Sl.app []) false true [set0,b] []
def lamN (hid : Bool) (k : Int) : Nat → Tm
  | 0 => varT k
  | m + 1 => lamT hid (lamN hid k m)
set_option maxHeartbeats 4000000 in
theorem wVar {n : Nat} {h : Hps} (hg : Gd n h) {r q : Nat} {L : List D} (W : Wst r L q h) (hL : L.length < 900000) {k : Int} (h0 : 0 ≤ k) (h1 : k < 128) : WOk n h r q L 2 (callFn (LX (cF Tryd.prog)) n h [.ptr r 0 0,(D.agg [.int .i64 (varT k).form,.int .i64 (varT k).n,.bool (varT k).hid,.str (varT k).name,slD 2 encL (varT k).levels,slD 6 encT (varT k).kids])] (cF Tryd.prog 15)) := by
  have hgn := hg n (Nat.le_refl _)
  obtain ⟨hr,hq⟩ := W.lt hg
  obtain ⟨b,g1,hb⟩ := W.get
  have o1 := fun m g => (hb m g).1
  have o2 := fun m g => (hb m g).2
  have H0 : Hp n h (n + 1) ((n,(Ob.row 6 [.agg [.int .i64 (varT k).form,.int .i64 (varT k).n,.bool (varT k).hid,.str (varT k).name,slD 2 encL (varT k).levels,slD 6 encT (varT k).kids]])) :: h) := (Hp.start hg).box (r := n) (m := n + 1) (Nat.le_refl _) (by omega) (flatTA _)
  have q1 : ¬ ((L.length : Nat) : Int) > 1000000 := by omega
  show WOk n h r q L 2 (callFn (LX (cF Tryd.prog)) n h [.ptr r 0 0,.agg [.int .i64 1,.int .i64 k,.bool false,.str [],.nils,.nils]] (cF Tryd.prog 15))
  have G1 : Gd (n + 11) ((n,(Ob.row 6 [.agg [.int .i64 (varT k).form,.int .i64 (varT k).n,.bool (varT k).hid,.str (varT k).name,slD 2 encL (varT k).levels,slD 6 encT (varT k).kids]])) :: h) := fun k hk => H0.good k (by omega)
  obtain ⟨n1,h1',q1',L1,e1,s1,W1,i1,j1,l1⟩ := wNum' G1 (W.cons hg (Nat.le_refl n)) (by omega) (v := 1) (by omega) (by omega)
  have k1 : getO h1' n = .row 6 [.agg [.int .i64 1,.int .i64 k,.bool false,.str [],.nils,.nils]] := by rw [s1.keep n (by omega) (by omega) (by omega),getO_hd]; rfl
  replace e1 : callFn (LX (cF Tryd.prog)) (n + 11) ((n,.row 6 [.agg [.int .i64 1,.int .i64 k,.bool false,.str [],.nils,.nils]]) :: h) [.ptr r 0 0,.int .i64 1] (cF Tryd.prog 32) = .ok (.tup []) n1 h1' := e1
  rw [f15_eq]; unfold c15; rw [callFn_eq (by rfl)]
  obtain ⟨n2,h2',q2',L2,e2,s2,W2,i2,j2,l2⟩ := wNum' (n := n1 + 9) (fun k hk => s1.good k (by omega)) W1 (by omega) h0 h1
  have k2 : getO h2' n = .row 6 [.agg [.int .i64 1,.int .i64 k,.bool false,.str [],.nils,.nils]] := by rw [s2.keep n (by have := s1.le; omega) (by omega) (by omega),k1]
  simp (disch:=first|assumption|omega|(simp (disch:=first|assumption|omega) only [sB,Nat.reduceAdd,Nat.reduceLT,Nat.reduceLeDiff,Nat.reduceEqDiff,Nat.reduceMul,↓reduceIte,getO_tl];done)|fail) only [sA,↓reduceIte,Nat.reduceLT,Nat.reduceEqDiff,Nat.reduceAdd,Nat.reduceLeDiff,g1,o1,o2,q1,e1,k1,e2,k2,getO_tl]
  rw [LX_loop]
  unfold l15_0
  simp (disch:=first|assumption|omega|(simp (disch:=first|assumption|omega) only [sB,Nat.reduceAdd,Nat.reduceLT,Nat.reduceLeDiff,Nat.reduceEqDiff,Nat.reduceMul,↓reduceIte];done)|fail) only [sA,↓reduceIte,Nat.reduceLT,Nat.reduceEqDiff,Nat.reduceAdd,Nat.reduceLeDiff,k2]
  have := s1.le
  have := s2.le
  exact wok_end hr W2 (by omega) (by omega) (by omega) (fun k hk => s2.good k (by omega)) (fun x a b c => by rw [s2.keep x (by omega) b (by omega),s1.keep x (by omega) b c,getO_tl (by omega)])
set_option maxHeartbeats 4000000 in
theorem wLev {n : Nat} {h : Hps} (hg : Gd n h) {r q : Nat} {L : List D} (W : Wst r L q h) (hL : L.length < 900000) : WOk n h r q L 2 (callFn (LX (cF Tryd.prog)) n h [.ptr r 0 0,.sl 2 [.agg [.int .i64 0,.nils]] [] true] (cF Tryd.prog 33)) := by
  have hgn := hg n (Nat.le_refl _)
  obtain ⟨hr,hq⟩ := W.lt hg
  have c1 : ∀ m g,lenD m g .slice (.sl 2 [.agg [.int .i64 0,.nils]] [] true) = .ok (.int .i64 1) m g := fun _ _ => rfl
  have c2 : ∀ m g,iaddrD m g 2 (.sl 2 [.agg [.int .i64 0,.nils]] [] true) 0 = .ok (.ip (.agg [.int .i64 0,.nils]) 0) m g := fun _ _ => rfl
  rw [f33_eq]; unfold c33; rw [callFn_eq (by rfl)]
  simp (disch:=first|assumption|omega|(simp (disch:=first|assumption|omega) only [sB,Nat.reduceAdd,Nat.reduceLT,Nat.reduceLeDiff,Nat.reduceEqDiff,Nat.reduceMul,↓reduceIte];done)|fail) only [sA,↓reduceIte,Nat.reduceLT,Nat.reduceEqDiff,Nat.reduceAdd,Nat.reduceLeDiff,c1,c2]
  rw [LX_loop]
  unfold l33_1
  simp (disch:=first|assumption|omega|(simp (disch:=first|assumption|omega) only [sB,Nat.reduceAdd,Nat.reduceLT,Nat.reduceLeDiff,Nat.reduceEqDiff,Nat.reduceMul,↓reduceIte];done)|fail) only [sA,↓reduceIte,Nat.reduceLT,Nat.reduceEqDiff,Nat.reduceAdd,Nat.reduceLeDiff,c1,c2]
  have H0 : Hp n h (n + 7) ((n + 6,.row 2 [.agg [.int .i64 0,.nils]]) :: h) := (Hp.start hg).box (r := n + 6) (m := n + 7) (by omega) (by omega) rfl
  obtain ⟨n1,h1',q1',L1,e1,s1,W1,i1,j1,l1⟩ := wNum' (n := n + 12) (fun k hk => H0.good k (by omega)) (W.cons (x := n + 6) hg (by omega)) (by omega) (v := 0) (by omega) (by omega)
  have k1 : getO h1' (n + 6) = .row 2 [.agg [.int .i64 0,.nils]] := by rw [s1.keep (n + 6) (by omega) (by omega) (by omega),getO_hd]
  have := s1.le
  obtain ⟨n2,h2',q2',L2,e2,s2,W2,i2,j2,l2⟩ := wNum' (n := n1 + 6) (fun k hk => s1.good k (by omega)) W1 (by omega) (v := 0) (by omega) (by omega)
  have k2 : getO h2' (n + 6) = .row 2 [.agg [.int .i64 0,.nils]] := by rw [s2.keep (n + 6) (by omega) (by omega) (by omega),k1]
  have := s2.le
  simp (disch:=first|assumption|omega|(simp (disch:=first|assumption|omega) only [sB,Nat.reduceAdd,Nat.reduceLT,Nat.reduceLeDiff,Nat.reduceEqDiff,Nat.reduceMul,↓reduceIte,getO_tl];done)|fail) only [sA,↓reduceIte,Nat.reduceLT,Nat.reduceEqDiff,Nat.reduceAdd,Nat.reduceLeDiff,e1,k1,e2,k2,getO_tl]
  rw [LX_loop]
  unfold l33_0
  simp (disch:=first|assumption|omega|(simp (disch:=first|assumption|omega) only [sB,Nat.reduceAdd,Nat.reduceLT,Nat.reduceLeDiff,Nat.reduceEqDiff,Nat.reduceMul,↓reduceIte];done)|fail) only [sA,↓reduceIte,Nat.reduceLT,Nat.reduceEqDiff,Nat.reduceAdd,Nat.reduceLeDiff]
  rw [LX_loop]
  simp (disch:=first|assumption|omega|(simp (disch:=first|assumption|omega) only [sB,Nat.reduceAdd,Nat.reduceLT,Nat.reduceLeDiff,Nat.reduceEqDiff,Nat.reduceMul,↓reduceIte];done)|fail) only [sA,↓reduceIte,Nat.reduceLT,Nat.reduceEqDiff,Nat.reduceAdd,Nat.reduceLeDiff]
  exact wok_end hr W2 (by omega) (by omega) (by omega) (fun k hk => s2.good k (by omega)) (fun x a b c => by rw [s2.keep x (by omega) b (by omega),s1.keep x (by omega) b c,getO_tl (by omega)])
set_option maxHeartbeats 4000000 in
theorem wSet {n : Nat} {h : Hps} (hg : Gd n h) {r q : Nat} {L : List D} (W : Wst r L q h) (hL : L.length < 850000) : WOk n h r q L 3 (callFn (LX (cF Tryd.prog)) n h [.ptr r 0 0,(D.agg [.int .i64 (set0).form,.int .i64 (set0).n,.bool (set0).hid,.str (set0).name,slD 2 encL (set0).levels,slD 6 encT (set0).kids])] (cF Tryd.prog 15)) := by
  have hgn := hg n (Nat.le_refl _)
  obtain ⟨hr,hq⟩ := W.lt hg
  obtain ⟨b,g1,hb⟩ := W.get
  have o1 := fun m g => (hb m g).1
  have o2 := fun m g => (hb m g).2
  have H0 : Hp n h (n + 1) ((n,(Ob.row 6 [.agg [.int .i64 (set0).form,.int .i64 (set0).n,.bool (set0).hid,.str (set0).name,slD 2 encL (set0).levels,slD 6 encT (set0).kids]])) :: h) := (Hp.start hg).box (r := n) (m := n + 1) (Nat.le_refl _) (by omega) (flatTA _)
  have q1 : ¬ ((L.length : Nat) : Int) > 1000000 := by omega
  show WOk n h r q L 3 (callFn (LX (cF Tryd.prog)) n h [.ptr r 0 0,.agg [.int .i64 2,.int .i64 0,.bool false,.str [],.sl 2 [.agg [.int .i64 0,.nils]] [] true,.nils]] (cF Tryd.prog 15))
  obtain ⟨n1,h1',q1',L1,e1,s1,W1,i1,j1,l1⟩ := wNum' (n := n + 11) (fun k hk => H0.good k (by omega)) (W.cons hg (Nat.le_refl n)) (by omega) (v := 2) (by omega) (by omega)
  have k1 : getO h1' n = .row 6 [.agg [.int .i64 2,.int .i64 0,.bool false,.str [],.sl 2 [.agg [.int .i64 0,.nils]] [] true,.nils]] := by rw [s1.keep n (by omega) (by omega) (by omega),getO_hd]; rfl
  replace e1 : callFn (LX (cF Tryd.prog)) (n + 11) ((n,.row 6 [.agg [.int .i64 2,.int .i64 0,.bool false,.str [],.sl 2 [.agg [.int .i64 0,.nils]] [] true,.nils]]) :: h) [.ptr r 0 0,.int .i64 2] (cF Tryd.prog 32) = .ok (.tup []) n1 h1' := e1
  have := s1.le
  obtain ⟨n2,h2',q2',L2,e2,s2,W2,i2,j2,l2⟩ := wLev (n := n1 + 13) (fun k hk => s1.good k (by omega)) W1 (by omega)
  have k2 : getO h2' n = .row 6 [.agg [.int .i64 2,.int .i64 0,.bool false,.str [],.sl 2 [.agg [.int .i64 0,.nils]] [] true,.nils]] := by rw [s2.keep n (by omega) (by omega) (by omega),k1]
  have := s2.le
  rw [f15_eq]; unfold c15; rw [callFn_eq (by rfl)]
  simp (disch:=first|assumption|omega|(simp (disch:=first|assumption|omega) only [sB,Nat.reduceAdd,Nat.reduceLT,Nat.reduceLeDiff,Nat.reduceEqDiff,Nat.reduceMul,↓reduceIte,getO_tl];done)|fail) only [sA,↓reduceIte,Nat.reduceLT,Nat.reduceEqDiff,Nat.reduceAdd,Nat.reduceLeDiff,g1,o1,o2,q1,e1,k1,e2,k2,getO_tl]
  rw [LX_loop]
  unfold l15_0
  simp (disch:=first|assumption|omega|(simp (disch:=first|assumption|omega) only [sB,Nat.reduceAdd,Nat.reduceLT,Nat.reduceLeDiff,Nat.reduceEqDiff,Nat.reduceMul,↓reduceIte];done)|fail) only [sA,↓reduceIte,Nat.reduceLT,Nat.reduceEqDiff,Nat.reduceAdd,Nat.reduceLeDiff,k2]
  exact wok_end hr W2 (by omega) (by omega) (by omega) (fun k hk => s2.good k (by omega)) (fun x a b c => by rw [s2.keep x (by omega) b (by omega),s1.keep x (by omega) b c,getO_tl (by omega)])
set_option maxHeartbeats 4000000 in
theorem wLam {hid : Bool} {B : Tm} {cB : Nat} (ih : ∀ {n : Nat} {h : Hps},Gd n h → ∀ {r q : Nat} {L : List D},Wst r L q h → L.length + cB < 800000 → WOk n h r q L cB (callFn (LX (cF Tryd.prog)) n h [.ptr r 0 0,(D.agg [.int .i64 (B).form,.int .i64 (B).n,.bool (B).hid,.str (B).name,slD 2 encL (B).levels,slD 6 encT (B).kids])] (cF Tryd.prog 15)))
    {n : Nat} {h : Hps} (hg : Gd n h) {r q : Nat} {L : List D} (W : Wst r L q h) (hL : L.length + (5 + cB) < 800000) : WOk n h r q L (5 + cB) (callFn (LX (cF Tryd.prog)) n h [.ptr r 0 0,(D.agg [.int .i64 (lamT hid B).form,.int .i64 (lamT hid B).n,.bool (lamT hid B).hid,.str (lamT hid B).name,slD 2 encL (lamT hid B).levels,slD 6 encT (lamT hid B).kids])] (cF Tryd.prog 15)) := by
  have hgn := hg n (Nat.le_refl _)
  obtain ⟨hr,hq⟩ := W.lt hg
  obtain ⟨b,g1,hb⟩ := W.get
  have o1 := fun m g => (hb m g).1
  have o2 := fun m g => (hb m g).2
  have H0 : Hp n h (n + 1) ((n,(Ob.row 6 [.agg [.int .i64 (lamT hid B).form,.int .i64 (lamT hid B).n,.bool (lamT hid B).hid,.str (lamT hid B).name,slD 2 encL (lamT hid B).levels,slD 6 encT (lamT hid B).kids]])) :: h) := (Hp.start hg).box (r := n) (m := n + 1) (Nat.le_refl _) (by omega) (flatTA _)
  have q1 : ¬ ((L.length : Nat) : Int) > 1000000 := by omega
  obtain ⟨K,hK⟩ : ∃ K : List D,K = [encT set0,encT B] := ⟨_,rfl⟩
  have hT : (D.agg [.int .i64 (lamT hid B).form,.int .i64 (lamT hid B).n,.bool (lamT hid B).hid,.str (lamT hid B).name,slD 2 encL (lamT hid B).levels,slD 6 encT (lamT hid B).kids]) = .agg [.int .i64 4,.int .i64 0,.bool hid,.str [],.nils,.sl 6 K [] true] := by rw [hK]; rfl
  have hTB : (Ob.row 6 [.agg [.int .i64 (lamT hid B).form,.int .i64 (lamT hid B).n,.bool (lamT hid B).hid,.str (lamT hid B).name,slD 2 encL (lamT hid B).levels,slD 6 encT (lamT hid B).kids]]) = .row 6 [.agg [.int .i64 4,.int .i64 0,.bool hid,.str [],.nils,.sl 6 K [] true]] := by rw [hK]; rfl
  rw [hTB] at H0
  rw [hT]
  have c1 : ∀ m g,lenD m g .slice (.sl 6 K [] true) = .ok (.int .i64 2) m g := fun _ _ => by rw [hK]; rfl
  have c2 : ∀ m g,iaddrD m g 6 (.sl 6 K [] true) 0 = .ok (.ip (encT set0) 0) m g := fun _ _ => by rw [hK]; rfl
  have c3 : ∀ m g,natR (iaddrD m g 6 (.sl 6 K [] true)) (.int .i64 (0 + 1)) = .ok (.ip (encT B) 0) m g := fun _ _ => by rw [hK]; rfl
  obtain ⟨n1,h1',q1',L1,e1,s1,W1,i1,j1,l1⟩ := wNum' (n := n + 11) (fun k hk => H0.good k (by omega)) (W.cons hg (Nat.le_refl n)) (by omega) (v := 4) (by omega) (by omega)
  have k1 : getO h1' n = .row 6 [.agg [.int .i64 4,.int .i64 0,.bool hid,.str [],.nils,.sl 6 K [] true]] := by rw [s1.keep n (by omega) (by omega) (by omega),getO_hd]
  have := s1.le
  have d1 := fun m (hm : n1 ≤ m) => pBit hid m h1' (fun k hk => s1.good k (by omega))
  obtain ⟨n2,h2',q2',L2,e2,s2,W2,i2,j2,l2⟩ := wNum' (n := n1 + 19) (fun k hk => s1.good k (by omega)) W1 (by omega) (v := if hid = true then 1 else 0) (by split <;> omega) (by split <;> omega)
  have k2 : getO h2' n = .row 6 [.agg [.int .i64 4,.int .i64 0,.bool hid,.str [],.nils,.sl 6 K [] true]] := by rw [s2.keep n (by omega) (by omega) (by omega),k1]
  have := s2.le
  rw [f15_eq]; unfold c15; rw [callFn_eq (by rfl)]
  simp (disch:=first|assumption|omega|(simp (disch:=first|assumption|omega) only [sB,Nat.reduceAdd,Nat.reduceLT,Nat.reduceLeDiff,Nat.reduceEqDiff,Nat.reduceMul,↓reduceIte,getO_tl];done)|fail) only [sA,↓reduceIte,Nat.reduceLT,Nat.reduceEqDiff,Nat.reduceAdd,Nat.reduceLeDiff,g1,o1,o2,q1,e1,k1,d1,e2,k2,c1,getO_tl]
  rw [LX_loop]
  unfold l15_0
  simp (disch:=first|assumption|omega|(simp (disch:=first|assumption|omega) only [sB,Nat.reduceAdd,Nat.reduceLT,Nat.reduceLeDiff,Nat.reduceEqDiff,Nat.reduceMul,↓reduceIte];done)|fail) only [sA,↓reduceIte,Nat.reduceLT,Nat.reduceEqDiff,Nat.reduceAdd,Nat.reduceLeDiff,k2,c1,c2,encT_eq]
  have H2 : Hp n2 h2' (n2 + 9) ((n2 + 8,(Ob.row 6 [.agg [.int .i64 (set0).form,.int .i64 (set0).n,.bool (set0).hid,.str (set0).name,slD 2 encL (set0).levels,slD 6 encT (set0).kids]])) :: h2') := (Hp.start s2.good).box (r := n2 + 8) (m := n2 + 9) (by omega) (by omega) (flatTA _)
  obtain ⟨n3,h3',q3',L3,e3,s3,W3,i3,j3,l3⟩ := wSet (n := n2 + 13) (fun k hk => H2.good k (by omega)) (W2.cons (x := n2 + 8) s2.good (by omega)) (by omega)
  have k3 : getO h3' n = .row 6 [.agg [.int .i64 4,.int .i64 0,.bool hid,.str [],.nils,.sl 6 K [] true]] := by rw [s3.keep n (by omega) (by omega) (by omega),getO_tl (by omega),k2]
  have := s3.le
  simp (disch:=first|assumption|omega|(simp (disch:=first|assumption|omega) only [sB,Nat.reduceAdd,Nat.reduceLT,Nat.reduceLeDiff,Nat.reduceEqDiff,Nat.reduceMul,↓reduceIte];done)|fail) only [sA,↓reduceIte,Nat.reduceLT,Nat.reduceEqDiff,Nat.reduceAdd,Nat.reduceLeDiff,e3]
  rw [LX_loop]
  simp (disch:=first|assumption|omega|(simp (disch:=first|assumption|omega) only [sB,Nat.reduceAdd,Nat.reduceLT,Nat.reduceLeDiff,Nat.reduceEqDiff,Nat.reduceMul,↓reduceIte];done)|fail) only [sA,↓reduceIte,Nat.reduceLT,Nat.reduceEqDiff,Nat.reduceAdd,Nat.reduceLeDiff,k3,c1,c3,encT_eq]
  have H3 : Hp n3 h3' (n3 + 7) ((n3 + 6,(Ob.row 6 [.agg [.int .i64 (B).form,.int .i64 (B).n,.bool (B).hid,.str (B).name,slD 2 encL (B).levels,slD 6 encT (B).kids]])) :: h3') := (Hp.start s3.good).box (r := n3 + 6) (m := n3 + 7) (by omega) (by omega) (flatTA _)
  obtain ⟨n4,h4',q4',L4,e4,s4,W4,i4,j4,l4⟩ := ih (n := n3 + 11) (fun k hk => H3.good k (by omega)) (W3.cons (x := n3 + 6) s3.good (by omega)) (by omega)
  have k4 : getO h4' n = .row 6 [.agg [.int .i64 4,.int .i64 0,.bool hid,.str [],.nils,.sl 6 K [] true]] := by rw [s4.keep n (by omega) (by omega) (by omega),getO_tl (by omega),k3]
  have := s4.le
  simp (disch:=first|assumption|omega|(simp (disch:=first|assumption|omega) only [sB,Nat.reduceAdd,Nat.reduceLT,Nat.reduceLeDiff,Nat.reduceEqDiff,Nat.reduceMul,↓reduceIte];done)|fail) only [sA,↓reduceIte,Nat.reduceLT,Nat.reduceEqDiff,Nat.reduceAdd,Nat.reduceLeDiff,e4]
  rw [LX_loop]
  simp (disch:=first|assumption|omega|(simp (disch:=first|assumption|omega) only [sB,Nat.reduceAdd,Nat.reduceLT,Nat.reduceLeDiff,Nat.reduceEqDiff,Nat.reduceMul,↓reduceIte];done)|fail) only [sA,↓reduceIte,Nat.reduceLT,Nat.reduceEqDiff,Nat.reduceAdd,Nat.reduceLeDiff,k4,c1]
  exact wok_end hr W4 (by omega) (by omega) (by omega) (fun k hk => s4.good k (by omega)) (fun x a b c => by
    rw [s4.keep x (by omega) b (by omega),getO_tl (by omega),s3.keep x (by omega) b (by omega),getO_tl (by omega),s2.keep x (by omega) b (by omega),s1.keep x (by omega) b c,getO_tl (by omega)])
theorem wLamN {hid : Bool} {k : Int} (h0 : 0 ≤ k) (h1 : k < 128) : ∀ (m : Nat) {n : Nat} {h : Hps},Gd n h → ∀ {r q : Nat} {L : List D},Wst r L q h → L.length + (2 + 5 * m) < 800000 →
    WOk n h r q L (2 + 5 * m) (callFn (LX (cF Tryd.prog)) n h [.ptr r 0 0,(D.agg [.int .i64 (lamN hid k m).form,.int .i64 (lamN hid k m).n,.bool (lamN hid k m).hid,.str (lamN hid k m).name,slD 2 encL (lamN hid k m).levels,slD 6 encT (lamN hid k m).kids])] (cF Tryd.prog 15))
  | 0,_,_,hg,_,_,_,W,hL => wVar hg W (by omega) h0 h1
  | m + 1,n,h,hg,r,q,L,W,hL => by
    have := wLam (hid := hid) (B := lamN hid k m) (cB := 2 + 5 * m) (fun {n h} hg {r q L} W hL => wLamN h0 h1 m hg W hL) hg W (by omega)
    rw [show 2 + 5 * (m + 1) = 5 + (2 + 5 * m) by omega]
    exact this
end Go.Proofs.YtpbpmpabndgeeaaDoor
