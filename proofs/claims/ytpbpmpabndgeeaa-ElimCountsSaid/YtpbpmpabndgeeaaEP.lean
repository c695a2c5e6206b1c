/- The bytes of a declaration: what the writer does. No condition but lengths. -/
import Derived.Test.YtpbpmpabndgeeaaEO
set_option linter.unusedSimpArgs false
set_option linter.unusedVariables false
namespace Go.Proofs.Ytpbpmpabndgeeaa
open Go
open Nat (reduceAdd reduceLT reduceLeDiff reduceEqDiff reduceMul)

structure Stp (n:Nat) (h:Hps) (n':Nat) (h':Hps) (r q:Nat):Prop where
  le:n≤n'
  good:Gd n' h'
  keep:∀ x,x < n→x≠r→x≠q→getO h' x=getO h x
def byt (v:Int):D := .int .u8 v
def Wst (r:Nat) (L:List D) (q:Nat) (h:Hps):Prop :=
  (∀ d,d∈L→∃ v,d=byt v) ∧ ((L=[]∧q=r∧getO h r = .row 1 [.agg [.nils]]) ∨ (L≠[]∧q≠r∧getO h r = .row 1 [.agg [.ms 1 q 0 L.length false]]∧getO h q = .row 1 L))
theorem r_ms {n f k r o l:Nat} {b:Bool}:hasR n (f+1) (.ms k r o l b)=Nat.ble n r:=rfl
theorem box_r {n m k:Nat}:obR1 n (.row 1 [.agg [.ms 1 m 0 k false]])=Nat.ble n m:=by
  have h1:hasR n 20 (.agg [.ms 1 m 0 k false])=Bool.not ([D.ms 1 m 0 k false].all fun d=>Bool.not (hasR n 19 d)):=by
    show Bool.not (allL _ _)=_
    rw [allL_eq]; rfl
  have h3:obR1 n (.row 1 [.agg [.ms 1 m 0 k false]])=Bool.not ([D.agg [.ms 1 m 0 k false]].all fun d=>Bool.not (hasR n 20 d)):=by
    show Bool.not (allL _ _)=_
    rw [allL_eq]
  rw [h3,List.all_cons,List.all_nil,h1,List.all_cons,r_ms]
  cases Nat.ble n m <;> rfl
theorem low_bytes {m:Nat} {L:List D} (hL:∀ d,d∈L→∃ v,d=byt v):lowO m (.row 1 L):=lowO_row (fun d hd=>by
  obtain ⟨v,rfl⟩:=hL d hd
  rfl)
theorem wst_end {n m n1:Nat} {h g:Hps} (hg:Gd n g) (hm:n≤m) (hmn:m < n1) {r q:Nat} (hr:r < n) (hx:getO g r ≠ .none) (hk:∀ y,y≠q→getO g y=getO h y) {L:List D} (hne:L≠[]) (hL:∀ d,d∈L→∃ v,d=byt v) {d:D} :
    ∃ n' h' q',finishD n n1 ((m,.row 1 L)::setO g r (.row 1 [.agg [.ms 1 m 0 L.length false]])) d = .ok d n' h'∧Stp n h n' h' r q∧Wst r L q' h'∧n≤q'∧q' < n':=by
  have e1:getO ((m,.row 1 L)::setO g r (.row 1 [.agg [.ms 1 m 0 L.length false]])) r = .row 1 [.agg [.ms 1 m 0 L.length false]]:=by
    rw [getO_tl (by omega),getO_setO _ _ _ _ hx,if_pos rfl]
  refine ⟨n1,_,m,finish_leak (leak_at hr e1 (by rw [box_r,ble_iff,decide_eq_true hm])),⟨by omega,fun k hk2=>?_,fun x h1 h2 h3=>?_⟩,⟨hL,.inr ⟨hne,by omega,e1,getO_hd⟩⟩,hm,hmn⟩
  · refine good_cons.2 ⟨by omega,low_bytes hL,good_set (hg k (by omega)) ?_⟩
    unfold lowO
    rw [box_r,ble_iff,decide_eq_false (by omega)]
  · rw [getO_tl (by omega),getO_setO _ _ _ _ hx,if_neg h2,hk x h3]
theorem wNum {n:Nat} {h:Hps} (hg:Gd n h) {r q:Nat} {L:List D} (W:Wst r L q h) (hL:L.length < 1000000) {v:Int} (h0:0≤v) (h1:v < 128) :
    ∃ n' h' q',callFn (LX (cF Try.prog)) n h [.ptr r 0 0,.int .i64 v] (cF Try.prog 57) = .ok (.tup []) n' h'∧Stp n h n' h' r q∧Wst r (L++[byt v]) q' h'∧n≤q'∧q' < n':=by
  have hgn:=hg n (Nat.le_refl _)
  have w1:IntKind.u64.wrap v=v:=by simp [IntKind.wrap,IntKind.bits,IntKind.signed]; omega
  have w2:IntKind.u8.wrap v=v:=by simp [IntKind.wrap,IntKind.bits,IntKind.signed]; omega
  have b1:binD .lss (.int .u64 v) (.int .u64 128) = .bool true:=by
    show D.bool (ltI v 128)=_
    rw [ltI_eq,decide_eq_true h1]
  have b2:∀ m g,bslD m g 1 [.int .u8 v] = .ok (.sl 1 [.int .u8 v] [] true) m g:=fun m g=>bsl_one rfl
  obtain ⟨hf,W⟩:=W
  rcases W with ⟨rfl,rfl,g1⟩ | ⟨hne,hqr,g1,g2⟩
  · have a1:∀ m g,appD m g 1 1 .nils (.ok 1 [.int .u8 v]) = .ok (.ms 1 m 0 1 false) m ((m,.row 1 [.int .u8 v])::g):=fun m g=>appD_nils (xt:=[]) (by decide)
    have hq:q < n:=getO_low hgn (by rw [g1]; simp)
    rw [f57_eq]; unfold c57; rw [callFn_eq (by rfl)]
    simp (disch:=first|assumption|omega|(simp (disch:=first|assumption|omega) only [sB,reduceAdd,reduceLT,reduceLeDiff,reduceEqDiff,reduceMul,↓reduceIte];done)|fail) only [sA,↓reduceIte,reduceLT,reduceEqDiff,reduceAdd,reduceLeDiff,g1,cviD,wr,w1]
    rw [LX_loop]
    unfold l57_0
    simp (disch:=first|assumption|omega|(simp (disch:=first|assumption|omega) only [sB,reduceAdd,reduceLT,reduceLeDiff,reduceEqDiff,reduceMul,↓reduceIte,getO_tl];done)|fail) only [sA,↓reduceIte,reduceLT,reduceEqDiff,reduceAdd,reduceLeDiff,g1,cviD,wr,w2,b1,b2,a1,getO_tl]
    exact wst_end hg (by omega) (by omega) hq (by rw [g1]; simp) (fun _ _=>rfl) (L:=[byt v]) (by simp) (fun d hd=>⟨v,by simpa using hd⟩)
  · have hr:r < n:=getO_low hgn (by rw [g1]; simp)
    have hq:q < n:=getO_low hgn (by rw [g2]; simp)
    have a1:∀ m g,appD m g 1 1 (.ms 1 q 0 L.length false) (.ok 1 [.int .u8 v])=appR m g 1 1 q 0 L.length false [.int .u8 v] (getO g q):=fun m g=>appD_un rfl
    have a2:∀ m g,appR m g 1 1 q 0 L.length false [.int .u8 v] (.row 1 L) = .ok (.ms 1 m 0 (L.length+1) false) m ((m,.row 1 (L++[.int .u8 v]))::delO g q):=fun m g=>appR_row rfl (by omega)
    have d1:getO (delO h q) r = .row 1 [.agg [.ms 1 q 0 L.length false]]:=by rw [getO_delO,if_neg (fun e=>hqr e.symm)]; exact g1
    rw [f57_eq]; unfold c57; rw [callFn_eq (by rfl)]
    simp (disch:=first|assumption|omega|(simp (disch:=first|assumption|omega) only [sB,reduceAdd,reduceLT,reduceLeDiff,reduceEqDiff,reduceMul,↓reduceIte];done)|fail) only [sA,↓reduceIte,reduceLT,reduceEqDiff,reduceAdd,reduceLeDiff,g1,cviD,wr,w1]
    rw [LX_loop]
    unfold l57_0
    simp (disch:=first|assumption|omega|(simp (disch:=first|assumption|omega) only [sB,reduceAdd,reduceLT,reduceLeDiff,reduceEqDiff,reduceMul,↓reduceIte,getO_tl];done)|fail) only [sA,↓reduceIte,reduceLT,reduceEqDiff,reduceAdd,reduceLeDiff,g1,g2,d1,cviD,wr,w2,b1,b2,a1,a2,getO_tl]
    have E:=wst_end (h:=h) (g:=delO h q) (n:=n) (m:=n+13) (n1:=n+17) (r:=r) (q:=q) (L:=L++[byt v]) (d := .tup []) (fun k hk=>good_del (hg k hk)) (by omega) (by omega) hr (by rw [d1]; simp) (fun y hy=>by rw [getO_delO,if_neg hy]) (by simp) (fun d hd=>by
      rcases List.mem_append.1 hd with hd | hd
      · exact hf d hd
      · exact ⟨v,by simpa using hd⟩)
    rw [List.length_append] at E
    exact E
def WOk (n:Nat) (h:Hps) (r q:Nat) (L:List D) (c:Nat) (res:Rd):Prop:=∃ n' h' q' L',res = .ok (.tup []) n' h'∧Stp n h n' h' r q∧Wst r L' q' h'∧n≤q'∧q' < n'∧L'.length≤L.length+c
theorem wNum' {n:Nat} {h:Hps} (hg:Gd n h) {r q:Nat} {L:List D} (W:Wst r L q h) (hL:L.length < 1000000) {v:Int} (h0:0≤v) (h1:v < 128):WOk n h r q L 1 (callFn (LX (cF Try.prog)) n h [.ptr r 0 0,.int .i64 v] (cF Try.prog 57)):=by
  obtain ⟨n',h',q',e1,e2,e3,e4,e5⟩:=wNum hg W hL h0 h1
  exact ⟨n',h',q',_,e1,e2,e3,e4,e5,by simp⟩
theorem Wst.lt {n:Nat} {h:Hps} (hg:Gd n h) {r q:Nat} {L:List D} (W:Wst r L q h):r < n∧q < n:=by
  have hgn:=hg n (Nat.le_refl _)
  rcases W.2 with ⟨_,rfl,g1⟩ | ⟨_,_,g1,g2⟩
  · have:=getO_low hgn (r:=q) (by rw [g1]; simp)
    exact ⟨this,this⟩
  · exact ⟨getO_low hgn (by rw [g1]; simp),getO_low hgn (by rw [g2]; simp)⟩
theorem Wst.cons {n:Nat} {h:Hps} (hg:Gd n h) {r q x:Nat} {L:List D} {o:Ob} (W:Wst r L q h) (hx:n≤x):Wst r L q ((x,o)::h):=by
  obtain ⟨hr,hq⟩:=W.lt hg
  refine ⟨W.1,?_⟩
  rcases W.2 with ⟨a,b,g1⟩ | ⟨a,b,g1,g2⟩
  · exact .inl ⟨a,b,by rw [getO_tl (by omega)]; exact g1⟩
  · exact .inr ⟨a,b,by rw [getO_tl (by omega)]; exact g1,by rw [getO_tl (by omega)]; exact g2⟩
theorem Wst.len {n n':Nat} {h:Hps} {r q:Nat} {L:List D} (W:Wst r L q h) {b:D} (hb:getO h r = .row 1 [.agg [b]]):lenD n' h .slice b = .ok (.int .i64 (L.length:Nat)) n' h:=by
  rcases W.2 with ⟨rfl,_,g1⟩ | ⟨_,_,g1,_⟩
  · rw [g1] at hb; cases hb; rfl
  · rw [g1] at hb; cases hb; rfl
theorem Wst.get {h:Hps} {r q:Nat} {L:List D} (W:Wst r L q h):∃ b,getO h r = .row 1 [.agg [b]]∧∀ m g,okD m g b = .ok b m g∧lenD m g .slice b = .ok (.int .i64 (L.length:Nat)) m g:=by
  rcases W.2 with ⟨rfl,_,g1⟩ | ⟨_,_,g1,_⟩
  · exact ⟨_,g1,fun m g=>⟨rfl,rfl⟩⟩
  · exact ⟨_,g1,fun m g=>⟨rfl,rfl⟩⟩
theorem wst_fin {n n2:Nat} {h:Hps} {r q:Nat} {L:List D} {d:D} (W:Wst r L q h) (hr:r < n) (hq:n≤q):finishD n n2 h d = .ok d n2 h:=by
  rcases W.2 with ⟨_,rfl,_⟩ | ⟨_,_,g1,_⟩
  · omega
  · exact finish_leak (leak_at hr g1 (by rw [box_r,ble_iff,decide_eq_true hq]))
theorem wok_end {n n2:Nat} {h h2:Hps} {r q q2:Nat} {L L2:List D} {c:Nat} (hr:r < n) (W2:Wst r L2 q2 h2) (hq:n≤q2) (hq2:q2 < n2) (hl:L2.length≤L.length+c) (hg:Gd n2 h2) (hk:∀ x,x < n→x≠r→x≠q→getO h2 x=getO h x) :
    WOk n h r q L c (finishD n n2 h2 (.tup [])) :=
  ⟨n2,h2,q2,L2,wst_fin W2 hr hq,⟨by omega,hg,hk⟩,W2,hq,hq2,hl⟩
theorem pBit (b:Bool) (n:Nat) (h:Hps) (hg:Gd n h):callFn (LX (cF Try.prog)) n h [.bool b] (cF Try.prog 91) = .ok (.int .i64 (if b then 1 else 0)) n h:=by
  have hgn:=hg n (Nat.le_refl _)
  rw [f91_eq]; unfold c91; rw [callFn_eq (by rfl)]
  cases b with
  | true=>simp (disch:=first|assumption|omega|(simp (disch:=first|assumption|omega) only [sB,reduceAdd,reduceLT,reduceLeDiff,reduceEqDiff,reduceMul,↓reduceIte];done)|fail) only [sA,↓reduceIte,reduceLT,reduceEqDiff,reduceAdd,reduceLeDiff]
  | false=>simp (disch:=first|assumption|omega|(simp (disch:=first|assumption|omega) only [sB,reduceAdd,reduceLT,reduceLeDiff,reduceEqDiff,reduceMul,↓reduceIte];done)|fail) only [sA,↓reduceIte,reduceLT,reduceEqDiff,reduceAdd,reduceLeDiff]; rfl
set_option maxHeartbeats 4000000 in
theorem wVar {n:Nat} {h:Hps} (hg:Gd n h) {r q:Nat} {L:List D} (W:Wst r L q h) (hL:L.length < 900000) {k:Int} (h0:0≤k) (h1:k < 128):WOk n h r q L 2 (callFn (LX (cF Try.prog)) n h [.ptr r 0 0,(D.agg [.int .i64 (varT k).form,.int .i64 (varT k).n,.bool (varT k).hid,.str (varT k).name,slD 2 encL (varT k).levels,slD 6 encT (varT k).kids])] (cF Try.prog 81)):=by
  have hgn:=hg n (Nat.le_refl _)
  obtain ⟨hr,hq⟩:=W.lt hg
  obtain ⟨b,g1,hb⟩:=W.get
  have o1:=fun m g => (hb m g).1
  have o2:=fun m g => (hb m g).2
  have H0:Hp n h (n+1) ((n,(Ob.row 6 [.agg [.int .i64 (varT k).form,.int .i64 (varT k).n,.bool (varT k).hid,.str (varT k).name,slD 2 encL (varT k).levels,slD 6 encT (varT k).kids]]))::h) := (Hp.start hg).box (r:=n) (m:=n+1) (Nat.le_refl _) (by omega) (flatTA _)
  have q1:¬ ((L.length:Nat):Int) > 1000000:=by omega
  show WOk n h r q L 2 (callFn (LX (cF Try.prog)) n h [.ptr r 0 0,.agg [.int .i64 1,.int .i64 k,.bool false,.str [],.nils,.nils]] (cF Try.prog 81))
  have G1:Gd (n+11) ((n,(Ob.row 6 [.agg [.int .i64 (varT k).form,.int .i64 (varT k).n,.bool (varT k).hid,.str (varT k).name,slD 2 encL (varT k).levels,slD 6 encT (varT k).kids]]))::h):=fun k hk=>H0.good k (by omega)
  obtain ⟨n1,h1',q1',L1,e1,s1,W1,i1,j1,l1⟩:=wNum' G1 (W.cons hg (Nat.le_refl n)) (by omega) (v:=1) (by omega) (by omega)
  have k1:getO h1' n = .row 6 [.agg [.int .i64 1,.int .i64 k,.bool false,.str [],.nils,.nils]]:=by rw [s1.keep n (by omega) (by omega) (by omega),getO_hd]; rfl
  replace e1:callFn (LX (cF Try.prog)) (n+11) ((n,.row 6 [.agg [.int .i64 1,.int .i64 k,.bool false,.str [],.nils,.nils]])::h) [.ptr r 0 0,.int .i64 1] (cF Try.prog 57) = .ok (.tup []) n1 h1':=e1
  rw [f81_eq]; unfold c81; rw [callFn_eq (by rfl)]
  obtain ⟨n2,h2',q2',L2,e2,s2,W2,i2,j2,l2⟩:=wNum' (n:=n1+9) (fun k hk=>s1.good k (by omega)) W1 (by omega) h0 h1
  have k2:getO h2' n = .row 6 [.agg [.int .i64 1,.int .i64 k,.bool false,.str [],.nils,.nils]]:=by rw [s2.keep n (by have:=s1.le; omega) (by omega) (by omega),k1]
  simp (disch:=first|assumption|omega|(simp (disch:=first|assumption|omega) only [sB,reduceAdd,reduceLT,reduceLeDiff,reduceEqDiff,reduceMul,↓reduceIte,getO_tl];done)|fail) only [sA,↓reduceIte,reduceLT,reduceEqDiff,reduceAdd,reduceLeDiff,g1,o1,o2,q1,e1,k1,e2,k2,getO_tl]
  rw [LX_loop]
  unfold l81_0
  simp (disch:=first|assumption|omega|(simp (disch:=first|assumption|omega) only [sB,reduceAdd,reduceLT,reduceLeDiff,reduceEqDiff,reduceMul,↓reduceIte];done)|fail) only [sA,↓reduceIte,reduceLT,reduceEqDiff,reduceAdd,reduceLeDiff,k2]
  have:=s1.le
  have:=s2.le
  exact wok_end hr W2 (by omega) (by omega) (by omega) (fun k hk=>s2.good k (by omega)) (fun x a b c=>by rw [s2.keep x (by omega) b (by omega),s1.keep x (by omega) b c,getO_tl (by omega)])
set_option maxHeartbeats 4000000 in
theorem wLev {n:Nat} {h:Hps} (hg:Gd n h) {r q:Nat} {L:List D} (W:Wst r L q h) (hL:L.length < 900000) {j:Int} (j0:0≤j) (j1:j < 128):WOk n h r q L 2 (callFn (LX (cF Try.prog)) n h [.ptr r 0 0,.sl 2 [.agg [.int .i64 j,.nils]] [] true] (cF Try.prog 90)):=by
  have hgn:=hg n (Nat.le_refl _)
  obtain ⟨hr,hq⟩:=W.lt hg
  have c1:∀ m g,lenD m g .slice (.sl 2 [.agg [.int .i64 j,.nils]] [] true) = .ok (.int .i64 1) m g:=fun _ _=>rfl
  have c2:∀ m g,iaddrD m g 2 (.sl 2 [.agg [.int .i64 j,.nils]] [] true) 0 = .ok (.ip (.agg [.int .i64 j,.nils]) 0) m g:=fun _ _=>rfl
  rw [f90_eq]; unfold c90; rw [callFn_eq (by rfl)]
  simp (disch:=first|assumption|omega|(simp (disch:=first|assumption|omega) only [sB,reduceAdd,reduceLT,reduceLeDiff,reduceEqDiff,reduceMul,↓reduceIte];done)|fail) only [sA,↓reduceIte,reduceLT,reduceEqDiff,reduceAdd,reduceLeDiff,c1,c2]
  rw [LX_loop]
  unfold l90_1
  simp (disch:=first|assumption|omega|(simp (disch:=first|assumption|omega) only [sB,reduceAdd,reduceLT,reduceLeDiff,reduceEqDiff,reduceMul,↓reduceIte];done)|fail) only [sA,↓reduceIte,reduceLT,reduceEqDiff,reduceAdd,reduceLeDiff,c1,c2]
  have H0:Hp n h (n+7) ((n+6,.row 2 [.agg [.int .i64 j,.nils]])::h) := (Hp.start hg).box (r:=n+6) (m:=n+7) (by omega) (by omega) rfl
  obtain ⟨n1,h1',q1',L1,e1,s1,W1,i1,j1,l1⟩:=wNum' (n:=n+12) (fun k hk=>H0.good k (by omega)) (W.cons (x:=n+6) hg (by omega)) (by omega) (v:=j) j0 j1
  have k1:getO h1' (n+6) = .row 2 [.agg [.int .i64 j,.nils]]:=by rw [s1.keep (n+6) (by omega) (by omega) (by omega),getO_hd]
  have:=s1.le
  obtain ⟨n2,h2',q2',L2,e2,s2,W2,i2,j2,l2⟩:=wNum' (n:=n1+6) (fun k hk=>s1.good k (by omega)) W1 (by omega) (v:=0) (by omega) (by omega)
  have k2:getO h2' (n+6) = .row 2 [.agg [.int .i64 j,.nils]]:=by rw [s2.keep (n+6) (by omega) (by omega) (by omega),k1]
  have:=s2.le
  simp (disch:=first|assumption|omega|(simp (disch:=first|assumption|omega) only [sB,reduceAdd,reduceLT,reduceLeDiff,reduceEqDiff,reduceMul,↓reduceIte,getO_tl];done)|fail) only [sA,↓reduceIte,reduceLT,reduceEqDiff,reduceAdd,reduceLeDiff,e1,k1,e2,k2,getO_tl]
  rw [LX_loop]
  unfold l90_0
  simp (disch:=first|assumption|omega|(simp (disch:=first|assumption|omega) only [sB,reduceAdd,reduceLT,reduceLeDiff,reduceEqDiff,reduceMul,↓reduceIte];done)|fail) only [sA,↓reduceIte,reduceLT,reduceEqDiff,reduceAdd,reduceLeDiff]
  rw [LX_loop]
  simp (disch:=first|assumption|omega|(simp (disch:=first|assumption|omega) only [sB,reduceAdd,reduceLT,reduceLeDiff,reduceEqDiff,reduceMul,↓reduceIte];done)|fail) only [sA,↓reduceIte,reduceLT,reduceEqDiff,reduceAdd,reduceLeDiff]
  exact wok_end hr W2 (by omega) (by omega) (by omega) (fun k hk=>s2.good k (by omega)) (fun x a b c=>by rw [s2.keep x (by omega) b (by omega),s1.keep x (by omega) b c,getO_tl (by omega)])
set_option maxHeartbeats 4000000 in
theorem wSet {n:Nat} {h:Hps} (hg:Gd n h) {r q:Nat} {L:List D} (W:Wst r L q h) (hL:L.length < 850000) {j:Int} (j0:0≤j) (j1:j < 128):WOk n h r q L 3 (callFn (LX (cF Try.prog)) n h [.ptr r 0 0,(D.agg [.int .i64 ((setT j)).form,.int .i64 ((setT j)).n,.bool ((setT j)).hid,.str ((setT j)).name,slD 2 encL ((setT j)).levels,slD 6 encT ((setT j)).kids])] (cF Try.prog 81)):=by
  have hgn:=hg n (Nat.le_refl _)
  obtain ⟨hr,hq⟩:=W.lt hg
  obtain ⟨b,g1,hb⟩:=W.get
  have o1:=fun m g => (hb m g).1
  have o2:=fun m g => (hb m g).2
  have H0:Hp n h (n+1) ((n,(Ob.row 6 [.agg [.int .i64 ((setT j)).form,.int .i64 ((setT j)).n,.bool ((setT j)).hid,.str ((setT j)).name,slD 2 encL ((setT j)).levels,slD 6 encT ((setT j)).kids]]))::h) := (Hp.start hg).box (r:=n) (m:=n+1) (Nat.le_refl _) (by omega) (flatTA _)
  have q1:¬ ((L.length:Nat):Int) > 1000000:=by omega
  show WOk n h r q L 3 (callFn (LX (cF Try.prog)) n h [.ptr r 0 0,.agg [.int .i64 2,.int .i64 0,.bool false,.str [],.sl 2 [.agg [.int .i64 j,.nils]] [] true,.nils]] (cF Try.prog 81))
  obtain ⟨n1,h1',q1',L1,e1,s1,W1,i1,y1,l1⟩:=wNum' (n:=n+11) (fun k hk=>H0.good k (by omega)) (W.cons hg (Nat.le_refl n)) (by omega) (v:=2) (by omega) (by omega)
  have k1:getO h1' n = .row 6 [.agg [.int .i64 2,.int .i64 0,.bool false,.str [],.sl 2 [.agg [.int .i64 j,.nils]] [] true,.nils]]:=by rw [s1.keep n (by omega) (by omega) (by omega),getO_hd]; rfl
  replace e1:callFn (LX (cF Try.prog)) (n+11) ((n,.row 6 [.agg [.int .i64 2,.int .i64 0,.bool false,.str [],.sl 2 [.agg [.int .i64 j,.nils]] [] true,.nils]])::h) [.ptr r 0 0,.int .i64 2] (cF Try.prog 57) = .ok (.tup []) n1 h1':=e1
  have:=s1.le
  obtain ⟨n2,h2',q2',L2,e2,s2,W2,i2,j2,l2⟩:=wLev (n:=n1+13) (fun k hk=>s1.good k (by omega)) W1 (by omega) j0 j1
  have k2:getO h2' n = .row 6 [.agg [.int .i64 2,.int .i64 0,.bool false,.str [],.sl 2 [.agg [.int .i64 j,.nils]] [] true,.nils]]:=by rw [s2.keep n (by omega) (by omega) (by omega),k1]
  have:=s2.le
  rw [f81_eq]; unfold c81; rw [callFn_eq (by rfl)]
  simp (disch:=first|assumption|omega|(simp (disch:=first|assumption|omega) only [sB,reduceAdd,reduceLT,reduceLeDiff,reduceEqDiff,reduceMul,↓reduceIte,getO_tl];done)|fail) only [sA,↓reduceIte,reduceLT,reduceEqDiff,reduceAdd,reduceLeDiff,g1,o1,o2,q1,e1,k1,e2,k2,getO_tl]
  rw [LX_loop]
  unfold l81_0
  simp (disch:=first|assumption|omega|(simp (disch:=first|assumption|omega) only [sB,reduceAdd,reduceLT,reduceLeDiff,reduceEqDiff,reduceMul,↓reduceIte];done)|fail) only [sA,↓reduceIte,reduceLT,reduceEqDiff,reduceAdd,reduceLeDiff,k2]
  exact wok_end hr W2 (by omega) (by omega) (by omega) (fun k hk=>s2.good k (by omega)) (fun x a b c=>by rw [s2.keep x (by omega) b (by omega),s1.keep x (by omega) b c,getO_tl (by omega)])
theorem opC_apps {call:CallF} {e:Tr} {n:Nat} {h:Hps} {s x:Opd}:opC call e n h (.apps s x)=appsD n h (ev e s) (ev e x):=eqOf rfl
theorem strL_byt:∀ {s:List Nat} {d:D},d∈strL s→∃ v,d=byt v
  | c::s,d,hd=>by
    rcases List.mem_cons.1 (show d∈D.int .u8 (.ofNat c)::strL s from hd) with rfl | hd
    · exact ⟨_,rfl⟩
    · exact strL_byt hd
theorem appR_rows {n q b p r m:Nat} {h:Hps} {es xs:List D} (hm:m=es.length) (hs : (es.length+xs.length)*b≤140737488355328):appR n h q b r 0 m false xs (.row p es) = .ok (.ms q n 0 (es.length+xs.length) false) n ((n,.row q (es++xs))::delO h r):=by
  subst hm
  show ifR (Bool.and (Nat.beq 0 0) (Nat.beq es.length (lenL es))) (ifR (Nat.ble ((lenL es+lenL xs)*b) most) (.ok (.ms q n 0 (lenL es+lenL xs) false) n ((n,.row q (appL es xs))::delO h r)))=_
  rw [lenL_eq,lenL_eq,Nat.beq_refl,Nat.beq_refl,ble_iff,appL_eq]
  have h1:decide ((es.length+xs.length)*b≤most)=true:=decide_eq_true hs
  rw [h1]
  rfl
theorem wText {n:Nat} {h:Hps} (hg:Gd n h) {r q:Nat} {L:List D} (W:Wst r L q h) (hL:L.length < 900000) {nm:List Nat} (hn:nm≠[]∧nm.length < 128):WOk n h r q L (1+nm.length) (callFn (LX (cF Try.prog)) n h [.ptr r 0 0,.str nm] (cF Try.prog 80)):=by
  have hgn:=hg n (Nat.le_refl _)
  obtain ⟨hr,hq⟩:=W.lt hg
  obtain ⟨n1,h1',q1',e1,s1,W1,i1,j1⟩:=wNum (n:=n+4) (fun k hk=>hg k (by omega)) W (by omega) (v := (nm.length:Nat)) (by omega) (by omega)
  have hle:=s1.le
  have l1:∀ m g,lenD m g .str (.str nm) = .ok (.int .i64 (nm.length:Nat)) m g:=fun m g=>len_str
  rcases W1.2 with ⟨e,_⟩ | ⟨hne,hqr,g1,g2⟩
  · simp at e
  have a1:∀ m g,appsD m g (.ms 1 q1' 0 (L++[byt (nm.length:Nat)]).length false) (.str nm)=appR m g 1 1 q1' 0 (L++[byt (nm.length:Nat)]).length false (strL nm) (getO g q1'):=fun m g=>by
    obtain ⟨h1,_⟩:=hn
    cases nm with
    | nil=>exact absurd rfl h1
    | cons c t=>rfl
  have a2:∀ m g,appR m g 1 1 q1' 0 (L++[byt (nm.length:Nat)]).length false (strL nm) (.row 1 (L++[byt (nm.length:Nat)])) = .ok (.ms 1 m 0 ((L++[byt (nm.length:Nat)]).length + (strL nm).length) false) m ((m,.row 1 (L++[byt (nm.length:Nat)]++strL nm))::delO g q1'):=fun m g=>by
    cases nm with
    | nil=>exact absurd rfl hn.1
    | cons c t=>exact appR_rows rfl (by rw [List.length_append,strL_len]; have:=hn.2; simp only [List.length_cons,List.length_nil] at this ⊢; omega)
  have d1:getO (delO h1' q1') r = .row 1 [.agg [.ms 1 q1' 0 (L++[byt (nm.length:Nat)]).length false]]:=by rw [getO_delO,if_neg (fun e=>hqr e.symm)]; exact g1
  rw [f80_eq]; unfold c80; rw [callFn_eq (by rfl)]
  simp (disch:=first|assumption|omega|(simp (disch:=first|assumption|omega) only [sB,reduceAdd,reduceLT,reduceLeDiff,reduceEqDiff,reduceMul,↓reduceIte,getO_tl];done)|fail) only [sA,↓reduceIte,reduceLT,reduceEqDiff,reduceAdd,reduceLeDiff,l1,e1,g1,g2,d1,opC_apps,a1,a2,getO_tl]
  rw [← List.length_append]
  have hx:getO (delO h1' q1') r ≠ .none:=by rw [d1]; simp
  have hb:∀ d,d∈L++[byt (nm.length:Nat)]++strL nm→∃ v,d=byt v:=fun d hd=>by
    rcases List.mem_append.1 hd with hd | hd
    · exact W1.1 d hd
    · exact strL_byt hd
  have e1:getO ((n1+7,Ob.row 1 (L++[byt (nm.length:Nat)]++strL nm))::setO (delO h1' q1') r (.row 1 [.agg [.ms 1 (n1+7) 0 (L++[byt (nm.length:Nat)]++strL nm).length false]])) r = .row 1 [.agg [.ms 1 (n1+7) 0 (L++[byt (nm.length:Nat)]++strL nm).length false]]:=by
    rw [getO_tl (by omega),getO_setO _ _ _ _ hx,if_pos rfl]
  exact wok_end hr ⟨hb,.inr ⟨by simp,by omega,e1,getO_hd⟩⟩ (by omega) (by omega) (by rw [List.length_append,List.length_append,strL_len,List.length_singleton]; omega) (fun k hk=>good_cons.2 ⟨by omega,low_bytes hb,good_set (good_del (s1.good k (by omega))) (by unfold lowO; rw [box_r,ble_iff,decide_eq_false (by omega)])⟩) (fun x a b c=>by
    rw [getO_tl (by omega),getO_setO _ _ _ _ hx,if_neg b,getO_delO,if_neg (by omega),s1.keep x (by omega) b c])
theorem wLev0 {n:Nat} {h:Hps} (hg:Gd n h) {r:Nat}:callFn (LX (cF Try.prog)) n h [.ptr r 0 0,.nils] (cF Try.prog 90) = .ok (.tup []) n h:=by
  have hgn:=hg n (Nat.le_refl _)
  have c1:∀ m g,lenD m g .slice .nils = .ok (.int .i64 0) m g:=fun _ _=>rfl
  rw [f90_eq]; unfold c90; rw [callFn_eq (by rfl)]
  simp (disch:=first|assumption|omega|(simp (disch:=first|assumption|omega) only [sB,reduceAdd,reduceLT,reduceLeDiff,reduceEqDiff,reduceMul,↓reduceIte];done)|fail) only [sA,↓reduceIte,reduceLT,reduceEqDiff,reduceAdd,reduceLeDiff,c1]
  rw [LX_loop]
  unfold l90_1
  simp (disch:=first|assumption|omega|(simp (disch:=first|assumption|omega) only [sB,reduceAdd,reduceLT,reduceLeDiff,reduceEqDiff,reduceMul,↓reduceIte];done)|fail) only [sA,↓reduceIte,reduceLT,reduceEqDiff,reduceAdd,reduceLeDiff]
set_option maxHeartbeats 4000000 in
theorem wConst {n:Nat} {h:Hps} (hg:Gd n h) {r q:Nat} {L:List D} (W:Wst r L q h) (hL:L.length < 850000) {nm:List Nat} (hn:nm≠[]∧nm.length < 128):WOk n h r q L (3+nm.length) (callFn (LX (cF Try.prog)) n h [.ptr r 0 0,(D.agg [.int .i64 (conT nm).form,.int .i64 (conT nm).n,.bool (conT nm).hid,.str (conT nm).name,slD 2 encL (conT nm).levels,slD 6 encT (conT nm).kids])] (cF Try.prog 81)):=by
  have hgn:=hg n (Nat.le_refl _)
  obtain ⟨hr,hq⟩:=W.lt hg
  obtain ⟨b,g1,hb⟩:=W.get
  have o1:=fun m g => (hb m g).1
  have o2:=fun m g => (hb m g).2
  have H0:Hp n h (n+1) ((n,(Ob.row 6 [.agg [.int .i64 (conT nm).form,.int .i64 (conT nm).n,.bool (conT nm).hid,.str (conT nm).name,slD 2 encL (conT nm).levels,slD 6 encT (conT nm).kids]]))::h) := (Hp.start hg).box (r:=n) (m:=n+1) (Nat.le_refl _) (by omega) (flatTA _)
  have q1:¬ ((L.length:Nat):Int) > 1000000:=by omega
  show WOk n h r q L (3+nm.length) (callFn (LX (cF Try.prog)) n h [.ptr r 0 0,.agg [.int .i64 10,.int .i64 0,.bool false,.str nm,.nils,.nils]] (cF Try.prog 81))
  obtain ⟨n1,h1',q1',L1,e1,s1,W1,i1,j1,l1⟩:=wNum' (n:=n+11) (fun k hk=>H0.good k (by omega)) (W.cons hg (Nat.le_refl n)) (by omega) (v:=10) (by omega) (by omega)
  have k1:getO h1' n = .row 6 [.agg [.int .i64 10,.int .i64 0,.bool false,.str nm,.nils,.nils]]:=by rw [s1.keep n (by omega) (by omega) (by omega),getO_hd]; rfl
  replace e1:callFn (LX (cF Try.prog)) (n+11) ((n,.row 6 [.agg [.int .i64 10,.int .i64 0,.bool false,.str nm,.nils,.nils]])::h) [.ptr r 0 0,.int .i64 10] (cF Try.prog 57) = .ok (.tup []) n1 h1':=e1
  have:=s1.le
  obtain ⟨n2,h2',q2',L2,e2,s2,W2,i2,j2,l2⟩:=wText (n:=n1+21) (fun k hk=>s1.good k (by omega)) W1 (by omega) hn
  have k2:getO h2' n = .row 6 [.agg [.int .i64 10,.int .i64 0,.bool false,.str nm,.nils,.nils]]:=by rw [s2.keep n (by omega) (by omega) (by omega),k1]
  have:=s2.le
  obtain ⟨n3,h3',q3',L3,e3,s3,W3,i3,j3,l3⟩:=wNum' (n:=n2+6) (fun k hk=>s2.good k (by omega)) W2 (by have:=hn.2; omega) (v:=0) (by omega) (by omega)
  have k3:getO h3' n = .row 6 [.agg [.int .i64 10,.int .i64 0,.bool false,.str nm,.nils,.nils]]:=by rw [s3.keep n (by omega) (by omega) (by omega),k2]
  have:=s3.le
  have e4:=fun m (hm:n3≤m)=>wLev0 (r:=r) (n:=m) (h:=h3') (fun k hk=>s3.good k (by omega))
  have c1:∀ m g,lenD m g .slice .nils = .ok (.int .i64 0) m g:=fun _ _=>rfl
  rw [f81_eq]; unfold c81; rw [callFn_eq (by rfl)]
  simp (disch:=first|assumption|omega|(simp (disch:=first|assumption|omega) only [sB,reduceAdd,reduceLT,reduceLeDiff,reduceEqDiff,reduceMul,↓reduceIte,getO_tl];done)|fail) only [sA,↓reduceIte,reduceLT,reduceEqDiff,reduceAdd,reduceLeDiff,g1,o1,o2,q1,e1,k1,e2,k2,c1,e3,k3,e4,getO_tl]
  rw [LX_loop]
  unfold l81_0
  simp (disch:=first|assumption|omega|(simp (disch:=first|assumption|omega) only [sB,reduceAdd,reduceLT,reduceLeDiff,reduceEqDiff,reduceMul,↓reduceIte];done)|fail) only [sA,↓reduceIte,reduceLT,reduceEqDiff,reduceAdd,reduceLeDiff,k3]
  exact wok_end hr W3 (by omega) (by omega) (by omega) (fun k hk=>s3.good k (by omega)) (fun x a b c=>by rw [s3.keep x (by omega) b (by omega),s2.keep x (by omega) b (by omega),s1.keep x (by omega) b c,getO_tl (by omega)])
def Wt (T:Tm) (c:Nat):Prop:=∀ {n:Nat} {h:Hps},Gd n h→∀ {r q:Nat} {L:List D},Wst r L q h→L.length+c < 800000→WOk n h r q L c (callFn (LX (cF Try.prog)) n h [.ptr r 0 0,(D.agg [.int .i64 (T).form,.int .i64 (T).n,.bool (T).hid,.str (T).name,slD 2 encL (T).levels,slD 6 encT (T).kids])] (cF Try.prog 81))
set_option maxHeartbeats 8000000 in
theorem wTwo3 {A B:Tm} {cA cB:Nat} (iA:Wt A cA) (iB:Wt B cB):Wt (two 3 A B) (2+cA+cB):=by
  intro n h hg r q L W hL
  have hgn:=hg n (Nat.le_refl _)
  obtain ⟨hr,hq⟩:=W.lt hg
  obtain ⟨b,g1,hb⟩:=W.get
  have o1:=fun m g => (hb m g).1
  have o2:=fun m g => (hb m g).2
  have H0:Hp n h (n+1) ((n,(Ob.row 6 [.agg [.int .i64 (two 3 A B).form,.int .i64 (two 3 A B).n,.bool (two 3 A B).hid,.str (two 3 A B).name,slD 2 encL (two 3 A B).levels,slD 6 encT (two 3 A B).kids]]))::h) := (Hp.start hg).box (r:=n) (m:=n+1) (Nat.le_refl _) (by omega) (flatTA _)
  have q1:¬ ((L.length:Nat):Int) > 1000000:=by omega
  obtain ⟨K,hK⟩:∃ K:List D,K=[encT A,encT B]:=⟨_,rfl⟩
  have hT : (D.agg [.int .i64 (two 3 A B).form,.int .i64 (two 3 A B).n,.bool (two 3 A B).hid,.str (two 3 A B).name,slD 2 encL (two 3 A B).levels,slD 6 encT (two 3 A B).kids]) = .agg [.int .i64 3,.int .i64 0,.bool false,.str [],.nils,.sl 6 K [] true]:=by rw [hK]; rfl
  have hTB : (Ob.row 6 [.agg [.int .i64 (two 3 A B).form,.int .i64 (two 3 A B).n,.bool (two 3 A B).hid,.str (two 3 A B).name,slD 2 encL (two 3 A B).levels,slD 6 encT (two 3 A B).kids]]) = .row 6 [.agg [.int .i64 3,.int .i64 0,.bool false,.str [],.nils,.sl 6 K [] true]]:=by rw [hK]; rfl
  rw [hTB] at H0
  rw [hT]
  have c1:∀ m g,lenD m g .slice (.sl 6 K [] true) = .ok (.int .i64 2) m g:=fun _ _=>by rw [hK]; rfl
  have c2:∀ m g,iaddrD m g 6 (.sl 6 K [] true) 0 = .ok (.ip (encT A) 0) m g:=fun _ _=>by rw [hK]; rfl
  have c3:∀ m g,natR (iaddrD m g 6 (.sl 6 K [] true)) (.int .i64 (0+1)) = .ok (.ip (encT B) 0) m g:=fun _ _=>by rw [hK]; rfl
  obtain ⟨n1,h1',q1',L1,e1,s1,W1,i1,j1,l1⟩:=wNum' (n:=n+11) (fun k hk=>H0.good k (by omega)) (W.cons hg (Nat.le_refl n)) (by omega) (v:=3) (by omega) (by omega)
  have k1:getO h1' n = .row 6 [.agg [.int .i64 3,.int .i64 0,.bool false,.str [],.nils,.sl 6 K [] true]]:=by rw [s1.keep n (by omega) (by omega) (by omega),getO_hd]
  have:=s1.le
  have d1:∀ m,n1≤m→callFn (LX (cF Try.prog)) m h1' [.bool false] (cF Try.prog 91) = .ok (.int .i64 0) m h1':=fun m (hm:n1≤m)=>pBit false m h1' (fun k hk=>s1.good k (by omega))
  obtain ⟨n2,h2',q2',L2,e2,s2,W2,i2,j2,l2⟩:=wNum' (n:=n1+17) (fun k hk=>s1.good k (by omega)) W1 (by omega) (v:=0) (by omega) (by omega)
  have k2:getO h2' n = .row 6 [.agg [.int .i64 3,.int .i64 0,.bool false,.str [],.nils,.sl 6 K [] true]]:=by rw [s2.keep n (by omega) (by omega) (by omega),k1]
  have:=s2.le
  rw [f81_eq]; unfold c81; rw [callFn_eq (by rfl)]
  simp (disch:=first|assumption|omega|(simp (disch:=first|assumption|omega) only [sB,reduceAdd,reduceLT,reduceLeDiff,reduceEqDiff,reduceMul,↓reduceIte,getO_tl];done)|fail) only [sA,↓reduceIte,reduceLT,reduceEqDiff,reduceAdd,reduceLeDiff,g1,o1,o2,q1,e1,k1,d1,e2,k2,c1,getO_tl]
  rw [LX_loop]
  unfold l81_0
  simp (disch:=first|assumption|omega|(simp (disch:=first|assumption|omega) only [sB,reduceAdd,reduceLT,reduceLeDiff,reduceEqDiff,reduceMul,↓reduceIte];done)|fail) only [sA,↓reduceIte,reduceLT,reduceEqDiff,reduceAdd,reduceLeDiff,k2,c1,c2,encT_eq]
  have H2:Hp n2 h2' (n2+9) ((n2+8,(Ob.row 6 [.agg [.int .i64 (A).form,.int .i64 (A).n,.bool (A).hid,.str (A).name,slD 2 encL (A).levels,slD 6 encT (A).kids]]))::h2') := (Hp.start s2.good).box (r:=n2+8) (m:=n2+9) (by omega) (by omega) (flatTA _)
  obtain ⟨n3,h3',q3',L3,e3,s3,W3,i3,j3,l3⟩:=iA (n:=n2+13) (fun k hk=>H2.good k (by omega)) (W2.cons (x:=n2+8) s2.good (by omega)) (by omega)
  have k3:getO h3' n = .row 6 [.agg [.int .i64 3,.int .i64 0,.bool false,.str [],.nils,.sl 6 K [] true]]:=by rw [s3.keep n (by omega) (by omega) (by omega),getO_tl (by omega),k2]
  have:=s3.le
  simp (disch:=first|assumption|omega|(simp (disch:=first|assumption|omega) only [sB,reduceAdd,reduceLT,reduceLeDiff,reduceEqDiff,reduceMul,↓reduceIte];done)|fail) only [sA,↓reduceIte,reduceLT,reduceEqDiff,reduceAdd,reduceLeDiff,e3]
  rw [LX_loop]
  simp (disch:=first|assumption|omega|(simp (disch:=first|assumption|omega) only [sB,reduceAdd,reduceLT,reduceLeDiff,reduceEqDiff,reduceMul,↓reduceIte];done)|fail) only [sA,↓reduceIte,reduceLT,reduceEqDiff,reduceAdd,reduceLeDiff,k3,c1,c3,encT_eq]
  have H3:Hp n3 h3' (n3+7) ((n3+6,(Ob.row 6 [.agg [.int .i64 (B).form,.int .i64 (B).n,.bool (B).hid,.str (B).name,slD 2 encL (B).levels,slD 6 encT (B).kids]]))::h3') := (Hp.start s3.good).box (r:=n3+6) (m:=n3+7) (by omega) (by omega) (flatTA _)
  obtain ⟨n4,h4',q4',L4,e4,s4,W4,i4,j4,l4⟩:=iB (n:=n3+11) (fun k hk=>H3.good k (by omega)) (W3.cons (x:=n3+6) s3.good (by omega)) (by omega)
  have k4:getO h4' n = .row 6 [.agg [.int .i64 3,.int .i64 0,.bool false,.str [],.nils,.sl 6 K [] true]]:=by rw [s4.keep n (by omega) (by omega) (by omega),getO_tl (by omega),k3]
  have:=s4.le
  simp (disch:=first|assumption|omega|(simp (disch:=first|assumption|omega) only [sB,reduceAdd,reduceLT,reduceLeDiff,reduceEqDiff,reduceMul,↓reduceIte];done)|fail) only [sA,↓reduceIte,reduceLT,reduceEqDiff,reduceAdd,reduceLeDiff,e4]
  rw [LX_loop]
  simp (disch:=first|assumption|omega|(simp (disch:=first|assumption|omega) only [sB,reduceAdd,reduceLT,reduceLeDiff,reduceEqDiff,reduceMul,↓reduceIte];done)|fail) only [sA,↓reduceIte,reduceLT,reduceEqDiff,reduceAdd,reduceLeDiff,k4,c1]
  exact wok_end hr W4 (by omega) (by omega) (by omega) (fun k hk=>s4.good k (by omega)) (fun x a b c=>by
    rw [s4.keep x (by omega) b (by omega),getO_tl (by omega),s3.keep x (by omega) b (by omega),getO_tl (by omega),s2.keep x (by omega) b (by omega),s1.keep x (by omega) b c,getO_tl (by omega)])
set_option maxHeartbeats 8000000 in
theorem wTwo5 {A B:Tm} {cA cB:Nat} (iA:Wt A cA) (iB:Wt B cB):Wt (two 5 A B) (2+cA+cB):=by
  intro n h hg r q L W hL
  have hgn:=hg n (Nat.le_refl _)
  obtain ⟨hr,hq⟩:=W.lt hg
  obtain ⟨b,g1,hb⟩:=W.get
  have o1:=fun m g => (hb m g).1
  have o2:=fun m g => (hb m g).2
  have H0:Hp n h (n+1) ((n,(Ob.row 6 [.agg [.int .i64 (two 5 A B).form,.int .i64 (two 5 A B).n,.bool (two 5 A B).hid,.str (two 5 A B).name,slD 2 encL (two 5 A B).levels,slD 6 encT (two 5 A B).kids]]))::h) := (Hp.start hg).box (r:=n) (m:=n+1) (Nat.le_refl _) (by omega) (flatTA _)
  have q1:¬ ((L.length:Nat):Int) > 1000000:=by omega
  obtain ⟨K,hK⟩:∃ K:List D,K=[encT A,encT B]:=⟨_,rfl⟩
  have hT : (D.agg [.int .i64 (two 5 A B).form,.int .i64 (two 5 A B).n,.bool (two 5 A B).hid,.str (two 5 A B).name,slD 2 encL (two 5 A B).levels,slD 6 encT (two 5 A B).kids]) = .agg [.int .i64 5,.int .i64 0,.bool false,.str [],.nils,.sl 6 K [] true]:=by rw [hK]; rfl
  have hTB : (Ob.row 6 [.agg [.int .i64 (two 5 A B).form,.int .i64 (two 5 A B).n,.bool (two 5 A B).hid,.str (two 5 A B).name,slD 2 encL (two 5 A B).levels,slD 6 encT (two 5 A B).kids]]) = .row 6 [.agg [.int .i64 5,.int .i64 0,.bool false,.str [],.nils,.sl 6 K [] true]]:=by rw [hK]; rfl
  rw [hTB] at H0
  rw [hT]
  have c1:∀ m g,lenD m g .slice (.sl 6 K [] true) = .ok (.int .i64 2) m g:=fun _ _=>by rw [hK]; rfl
  have c2:∀ m g,iaddrD m g 6 (.sl 6 K [] true) 0 = .ok (.ip (encT A) 0) m g:=fun _ _=>by rw [hK]; rfl
  have c3:∀ m g,natR (iaddrD m g 6 (.sl 6 K [] true)) (.int .i64 (0+1)) = .ok (.ip (encT B) 0) m g:=fun _ _=>by rw [hK]; rfl
  obtain ⟨n1,h1',q1',L1,e1,s1,W1,i1,j1,l1⟩:=wNum' (n:=n+11) (fun k hk=>H0.good k (by omega)) (W.cons hg (Nat.le_refl n)) (by omega) (v:=5) (by omega) (by omega)
  have k1:getO h1' n = .row 6 [.agg [.int .i64 5,.int .i64 0,.bool false,.str [],.nils,.sl 6 K [] true]]:=by rw [s1.keep n (by omega) (by omega) (by omega),getO_hd]
  have:=s1.le
  have d1:∀ m,n1≤m→callFn (LX (cF Try.prog)) m h1' [.bool false] (cF Try.prog 91) = .ok (.int .i64 0) m h1':=fun m (hm:n1≤m)=>pBit false m h1' (fun k hk=>s1.good k (by omega))
  obtain ⟨n2,h2',q2',L2,e2,s2,W2,i2,j2,l2⟩:=wNum' (n:=n1+21) (fun k hk=>s1.good k (by omega)) W1 (by omega) (v:=0) (by omega) (by omega)
  have k2:getO h2' n = .row 6 [.agg [.int .i64 5,.int .i64 0,.bool false,.str [],.nils,.sl 6 K [] true]]:=by rw [s2.keep n (by omega) (by omega) (by omega),k1]
  have:=s2.le
  rw [f81_eq]; unfold c81; rw [callFn_eq (by rfl)]
  simp (disch:=first|assumption|omega|(simp (disch:=first|assumption|omega) only [sB,reduceAdd,reduceLT,reduceLeDiff,reduceEqDiff,reduceMul,↓reduceIte,getO_tl];done)|fail) only [sA,↓reduceIte,reduceLT,reduceEqDiff,reduceAdd,reduceLeDiff,g1,o1,o2,q1,e1,k1,d1,e2,k2,c1,getO_tl]
  rw [LX_loop]
  unfold l81_0
  simp (disch:=first|assumption|omega|(simp (disch:=first|assumption|omega) only [sB,reduceAdd,reduceLT,reduceLeDiff,reduceEqDiff,reduceMul,↓reduceIte];done)|fail) only [sA,↓reduceIte,reduceLT,reduceEqDiff,reduceAdd,reduceLeDiff,k2,c1,c2,encT_eq]
  have H2:Hp n2 h2' (n2+9) ((n2+8,(Ob.row 6 [.agg [.int .i64 (A).form,.int .i64 (A).n,.bool (A).hid,.str (A).name,slD 2 encL (A).levels,slD 6 encT (A).kids]]))::h2') := (Hp.start s2.good).box (r:=n2+8) (m:=n2+9) (by omega) (by omega) (flatTA _)
  obtain ⟨n3,h3',q3',L3,e3,s3,W3,i3,j3,l3⟩:=iA (n:=n2+13) (fun k hk=>H2.good k (by omega)) (W2.cons (x:=n2+8) s2.good (by omega)) (by omega)
  have k3:getO h3' n = .row 6 [.agg [.int .i64 5,.int .i64 0,.bool false,.str [],.nils,.sl 6 K [] true]]:=by rw [s3.keep n (by omega) (by omega) (by omega),getO_tl (by omega),k2]
  have:=s3.le
  simp (disch:=first|assumption|omega|(simp (disch:=first|assumption|omega) only [sB,reduceAdd,reduceLT,reduceLeDiff,reduceEqDiff,reduceMul,↓reduceIte];done)|fail) only [sA,↓reduceIte,reduceLT,reduceEqDiff,reduceAdd,reduceLeDiff,e3]
  rw [LX_loop]
  simp (disch:=first|assumption|omega|(simp (disch:=first|assumption|omega) only [sB,reduceAdd,reduceLT,reduceLeDiff,reduceEqDiff,reduceMul,↓reduceIte];done)|fail) only [sA,↓reduceIte,reduceLT,reduceEqDiff,reduceAdd,reduceLeDiff,k3,c1,c3,encT_eq]
  have H3:Hp n3 h3' (n3+7) ((n3+6,(Ob.row 6 [.agg [.int .i64 (B).form,.int .i64 (B).n,.bool (B).hid,.str (B).name,slD 2 encL (B).levels,slD 6 encT (B).kids]]))::h3') := (Hp.start s3.good).box (r:=n3+6) (m:=n3+7) (by omega) (by omega) (flatTA _)
  obtain ⟨n4,h4',q4',L4,e4,s4,W4,i4,j4,l4⟩:=iB (n:=n3+11) (fun k hk=>H3.good k (by omega)) (W3.cons (x:=n3+6) s3.good (by omega)) (by omega)
  have k4:getO h4' n = .row 6 [.agg [.int .i64 5,.int .i64 0,.bool false,.str [],.nils,.sl 6 K [] true]]:=by rw [s4.keep n (by omega) (by omega) (by omega),getO_tl (by omega),k3]
  have:=s4.le
  simp (disch:=first|assumption|omega|(simp (disch:=first|assumption|omega) only [sB,reduceAdd,reduceLT,reduceLeDiff,reduceEqDiff,reduceMul,↓reduceIte];done)|fail) only [sA,↓reduceIte,reduceLT,reduceEqDiff,reduceAdd,reduceLeDiff,e4]
  rw [LX_loop]
  simp (disch:=first|assumption|omega|(simp (disch:=first|assumption|omega) only [sB,reduceAdd,reduceLT,reduceLeDiff,reduceEqDiff,reduceMul,↓reduceIte];done)|fail) only [sA,↓reduceIte,reduceLT,reduceEqDiff,reduceAdd,reduceLeDiff,k4,c1]
  exact wok_end hr W4 (by omega) (by omega) (by omega) (fun k hk=>s4.good k (by omega)) (fun x a b c=>by
    rw [s4.keep x (by omega) b (by omega),getO_tl (by omega),s3.keep x (by omega) b (by omega),getO_tl (by omega),s2.keep x (by omega) b (by omega),s1.keep x (by omega) b c,getO_tl (by omega)])
end Go.Proofs.Ytpbpmpabndgeeaa
