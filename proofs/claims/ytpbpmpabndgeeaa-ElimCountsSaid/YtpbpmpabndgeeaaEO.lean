/- A family is taken apart. No condition but sizes. -/
import Derived.Test.YtpbpmpabndgeeaaEM
import Derived.Test.YtpbpmpabndgeeaaTJ
set_option linter.unusedSimpArgs false
set_option linter.unusedVariables false
namespace Go.Proofs.Ytpbpmpabndgeeaa
open Go
open Nat (reduceAdd reduceLT reduceLeDiff reduceEqDiff reduceMul)

theorem nall {P Q:D→Bool} (ih:∀ d,P d=false→Q d=false):∀ cs:List D,Bool.not (allL (fun d=>Bool.not (P d)) cs)=false→Bool.not (allL (fun d=>Bool.not (Q d)) cs)=false:=by
  intro cs
  rw [allL_eq,allL_eq]
  induction cs with
  | nil=>exact fun h=>h
  | cons a t iht =>
    rw [List.all_cons,List.all_cons]
    intro h
    cases ha:P a with
    | true=>rw [ha] at h; simp at h
    | false =>
      rw [ha] at h
      rw [ih a ha]
      simp only [Bool.not_false,Bool.true_and] at h ⊢
      exact iht h
theorem ble_up {n k r:Nat} (h:n≤k) (e:Nat.ble n r=false):Nat.ble k r=false:=by
  rw [ble_iff] at e ⊢
  have:=of_decide_eq_false e
  exact decide_eq_false (by omega)
theorem hasR_mono {n k:Nat} (h:n≤k):∀ f d,hasR n f d=false→hasR k f d=false
  | 0,_,e=>by cases e
  | f+1,d,e=>by
    have ih:=hasR_mono h f
    cases d with
    | ptr r i j=>exact ble_up h e
    | ms q r o l b=>exact ble_up h e
    | mp r=>exact ble_up h e
    | yld r=>exact ble_up h e
    | iface t d=>exact ih d e
    | agg cs=>exact nall ih cs e
    | tup cs=>exact nall ih cs e
    | fn g a c =>
      replace e:Bool.not (Bool.and (allL (fun d=>Bool.not (hasR n f d)) a) (allL (fun d=>Bool.not (hasR n f d)) c))=false:=e
      show Bool.not (Bool.and (allL (fun d=>Bool.not (hasR k f d)) a) (allL (fun d=>Bool.not (hasR k f d)) c))=false
      have e1:=nall ih a
      have e2:=nall ih c
      cases ha:allL (fun d=>Bool.not (hasR n f d)) a <;> cases hc:allL (fun d=>Bool.not (hasR n f d)) c <;> rw [ha,hc] at e <;> first | (cases e; done) | skip
      rw [ha] at e1; rw [hc] at e2
      have e1:=e1 rfl
      have e2:=e2 rfl
      revert e1 e2
      cases allL (fun d=>Bool.not (hasR k f d)) a <;> cases allL (fun d=>Bool.not (hasR k f d)) c <;> intro e1 e2 <;> first | rfl | (cases e1; done) | (cases e2; done)
    | _=>rfl
theorem lowO_mono {n k:Nat} (h:n≤k) {o:Ob} (e:lowO n o):lowO k o:=by
  unfold lowO at e ⊢
  cases o with
  | row q es=>exact nall (hasR_mono h 20) es e
  | mit q=>exact ble_up h e
  | none=>rfl
  | map es =>
    revert e
    induction es with
    | nil=>exact fun e=>e
    | cons p t ih =>
      intro e
      replace e:Bool.or (hasR n 20 p.1) (Bool.or (hasR n 20 p.2) (obR1 n (.map t)))=false:=e
      show Bool.or (hasR k 20 p.1) (Bool.or (hasR k 20 p.2) (obR1 k (.map t)))=false
      rw [Bool.or_eq_false_iff] at e
      have e2:=e.2
      rw [Bool.or_eq_false_iff] at e2
      rw [hasR_mono h 20 _ e.1,hasR_mono h 20 _ e2.1,ih e2.2]; rfl
  | loop q a b c d e1 =>
    replace e:Nat.blt n q=false:=e
    show Nat.blt k q=false
    rw [blt_iff] at e ⊢
    have:=of_decide_eq_false e
    exact decide_eq_false (by omega)
theorem dropFrom_mem {n:Nat}:∀ {h:Hps} {p},p∈dropFrom n h→p∈h∧p.1 < n
  | [],_,hp=>by cases hp
  | (q,o)::t,p,hp=>by
    by_cases hq:q < n
    · rw [drop_old hq] at hp
      rcases List.mem_cons.1 hp with rfl | hp
      · exact ⟨by simp,hq⟩
      · have:=dropFrom_mem hp; exact ⟨by simp [this.1],this.2⟩
    · rw [drop_new (by omega)] at hp
      have:=dropFrom_mem hp; exact ⟨by simp [this.1],this.2⟩
theorem dropFrom_get {n x:Nat} (hx:x < n):∀ {h:Hps},getO (dropFrom n h) x=getO h x
  | []=>rfl
  | (q,o)::t=>by
    by_cases hq:q < n
    · rw [drop_old hq]
      by_cases e:q=x
      · subst e; rw [getO_hd,getO_hd]
      · rw [getO_tl e,getO_tl e]; exact dropFrom_get hx
    · rw [drop_new (by omega),getO_tl (by omega)]; exact dropFrom_get hx
theorem fin_flat {n m:Nat} {h:Hps} {d:D} (hd:flat d=true) (hnm:n≤m) (hg:Gd m h):∃ n' h',finishD n m h d = .ok d n' h'∧n≤n'∧Gd n' h'∧∀ x,x < n→getO h' x=getO h x:=by
  cases hb:leak n h with
  | true=>exact ⟨m,h,finish_leak hb,hnm,hg,fun _ _=>rfl⟩
  | false =>
    refine ⟨n,dropFrom n h,finishD_flat hd hb,Nat.le_refl _,fun k hk p hp=>?_,fun x hx=>dropFrom_get hx⟩
    obtain ⟨h1,h2⟩:=dropFrom_mem hp
    exact ⟨by omega,lowO_mono hk (leak_iff.1 hb p h1 h2)⟩
def elimT (nm:List Nat) (P:Nat) (Ps Is Ms:List Tm):Tm :=
  pisT Ps (two 3 (motT nm P Is) (pisT Ms (pisT (liftedT Is (1 + (Ms.length:Nat))) (two 3 (selfT nm P (1 + (Ms.length:Nat) + (Is.length:Nat)) (varsT Is.length 0)) (two 5 (appT (varT (1 + (Is.length:Nat) + (Ms.length:Nat))) (varsT Is.length 1)) (varT 0))))))
theorem inTs {l:List Tm} {p:Nat→Bool}:inO p (.row 6 (l.map encT))=true:=by
  show allL (inD p 20) (l.map encT)=true
  rw [allL_eq,List.all_eq_true]
  intro d hd
  obtain ⟨c,_,rfl⟩:=List.mem_map.1 hd
  exact inT
theorem rdTs {l:List Tm}:rdOb (.row 6 (l.map encT))=[]:=by
  show rfL (rd 20) (l.map encT)=[]
  induction l with
  | nil=>rfl
  | cons c t ih=>rw [List.map_cons,rfL_cons,ih,encT_eq]; simp only [rfL_cons,rfL_nil,rd_agg,rd_int,rd_str,rd_bool,rd_slD,appN_nil]
theorem sub_pis {n m rr:Nat} {g:Hps} {l:List Tm} {t:Tm} (hg:Gd n g) (yr:getO g rr = .row 6 (l.map encT)) (hr:rr < n) (hl:l≠[]∧l.length≤1000000000) (hm:n≤m) :
    ∃ g1,subC (callX (cF Try.prog) (LX (cF Try.prog))) [rr] m g (.fn 36 [] []) [.ms 6 rr 0 l.length false,(D.agg [.int .i64 (t).form,.int .i64 (t).n,.bool (t).hid,.str (t).name,slD 2 encL (t).levels,slD 6 encT (t).kids])] = .ok (encT (pisT l t)) (m+1) g1 ∧ (∀ q,getO g1 q=getO g q)∧Gd n g1:=by
  have gS:Gd (m+1) (subH [rr] g):=fun k hk p hp=>by
    obtain ⟨h2,h3⟩:=mem_subH hp
    obtain ⟨y,o⟩:=p
    simp only at h2 h3
    subst h3
    rw [List.mem_singleton.1 h2]
    exact hg k (by omega) _ (getO_mem (by rw [yr]; simp))
  have B:Bld 6 encT 0 l (subH [rr] g) (.ms 6 rr 0 l.length false) := .inr ⟨rr,hl.1,Nat.zero_le _,rfl,by rw [getO_subH.1 (by simp)]; exact yr⟩
  obtain ⟨ad,S⟩:=B.sv (gS (m+1) (Nat.le_refl _)) encA
  obtain ⟨g1,e1,e2,e3⟩:=sub_read (call:=callX (cF Try.prog) (LX (cF Try.prog))) (S:=[rr]) (m:=m) (h:=g) (f := .fn 36 [] []) (d:=encT (pisT l t)) (args:=[.ms 6 rr 0 l.length false,(D.agg [.int .i64 (t).form,.int .i64 (t).n,.bool (t).hid,.str (t).name,slD 2 encL (t).levels,slD 6 encT (t).kids])]) (n1:=m+1)
    (fun q hq=>by rw [List.mem_singleton.1 hq]; omega) (fun q hq=>by rw [List.mem_singleton.1 hq,yr]; exact inTs) rfl
    (by rw [allL_eq,List.all_cons,List.all_cons,List.all_nil,← encT_eq,inT]; rw [show inD (fun r=>memN r [rr]) 20 (.ms 6 rr 0 l.length false)=memN rr [rr] from rfl,memN_mem (by simp)]; rfl) inT
    (fun q hq=>by rw [List.mem_singleton.1 hq,yr]; exact inTs) (by rw [callX_fn]; exact pPis t hl.2 (m+1) _ gS S)
  exact ⟨g1,e1,e2,fun k hk=>e3 k (hg k hk) (fun q hq=>by rw [List.mem_singleton.1 hq]; omega)⟩
theorem reach_ms {g:Hps} {rr:Nat} {l:List Tm} {t:Tm} {j:Nat} {c:D} (yr:getO g rr = .row 6 (l.map encT)) (hc:rd 20 c=[]):reachC g [.ms 6 rr 0 j false,(D.agg [.int .i64 (t).form,.int .i64 (t).n,.bool (t).hid,.str (t).name,slD 2 encL (t).levels,slD 6 encT (t).kids])] c=[rr]:=by
  have e:rd 20 (D.agg [.int .i64 (t).form,.int .i64 (t).n,.bool (t).hid,.str (t).name,slD 2 encL (t).levels,slD 6 encT (t).kids])=[]:=by simp only [rfL_cons,rfL_nil,rd_agg,rd_int,rd_str,rd_bool,rd_slD,appN_nil]
  show reach g 4096 (appN (appN [rr] (appN (rd 20 (D.agg [.int .i64 (t).form,.int .i64 (t).n,.bool (t).hid,.str (t).name,slD 2 encL (t).levels,slD 6 encT (t).kids])) [])) (rd 20 c)) []=_
  rw [hc,e]
  show reach g (4094+1+1) [rr] []=_
  rw [reach_go rfl,yr,rdTs]
  rfl
theorem writR_call {f:Opd} {xs:List Opd} {T:List Nat} {h h1:Hps}:writR (.call f xs) T h h1=changed h h1 T:=eqOf rfl
theorem changed_nil {h h1:Hps}:∀ {T:List Nat},(∀ q,q∈T→sameO (getO h q) (getO h1 q)=true)→changed h h1 T=[]
  | [],_=>rfl
  | a::T,e=>by
    show Bool.rec (motive:=fun _=>List Nat) (a::changed h h1 T) (changed h h1 T) (sameO (getO h a) (getO h1 a))=_
    rw [e a (by simp),changed_nil (T:=T) (fun q hq=>e q (by simp [hq]))]
set_option maxHeartbeats 16000000 in
theorem pType {F:Fa} {f r n A:Nat} {ty t:Tm} {l:List Tm} {W:Sl Tm} {R:Nat→Bool} {MT:Nat→Tm} {h:Hps} (hg:Gd n h) (X:Fat F f r n h)
    (hM:∀ k,k < F.cs.length→∃ nm,Mkr F f r k A nm ty l t (slD 6 encT W) R) (hC:1≤F.cs.length∧F.cs.length≤999) (hs:∀ k,k < F.cs.length→Sm (MT k))
    (hc:∀ k,k < F.cs.length→∀ m' g' q,Gd m' g'→Fat F f r m' g'→Mat ((Sl.app l).cut F.Ps.el.length l.length) (recs R A) (slD 6 encT W) q m' g'→callFn (LX (cF Try.prog)) m' g' [.ptr f 0 0,.int .i64 (k:Nat),.ptr q 0 0] (cF Try.prog 24) = .ok (encT (MT k)) m' g')
    (hP:F.Ps.el.length≤1000) (hI:F.Is.el.length≤1000) (sI:∀ x,x∈F.Is.el→Sm x) (q1:sameO (Ob.row 21 [.agg [.int .i64 3,.str (F).nm,.int .i64 0,.int .i64 (F).typ.form,.int .i64 (F).typ.n,.bool (F).typ.hid,.str (F).typ.name,slD 2 encL (F).typ.levels,slD 6 encT (F).typ.kids,.int .i64 0,.int .i64 0,.bool false,.str [],.nils,.nils,.int .i64 ((F).P:Nat),.ms 7 (r) 0 (F).cs.length false,slD 6 encT (F).Ps,slD 6 encT (F).Is,.int .i64 (F).so.n,slD 2 encV (F).so.vs]]) (Ob.row 21 [.agg [.int .i64 3,.str (F).nm,.int .i64 0,.int .i64 (F).typ.form,.int .i64 (F).typ.n,.bool (F).typ.hid,.str (F).typ.name,slD 2 encL (F).typ.levels,slD 6 encT (F).typ.kids,.int .i64 0,.int .i64 0,.bool false,.str [],.nils,.nils,.int .i64 ((F).P:Nat),.ms 7 (r) 0 (F).cs.length false,slD 6 encT (F).Ps,slD 6 encT (F).Is,.int .i64 (F).so.n,slD 2 encV (F).so.vs]])=true) (q2:sameO (.row 7 (F.cs.map encC)) (.row 7 (F.cs.map encC))=true) :
    ∃ n' h',callFn (LX (cF Try.prog)) n h [.ptr f 0 0] (cF Try.prog 21) = .ok (.tup [encT (elimT F.nm F.Ps.el.length F.Ps.el F.Is.el (methsT MT F.cs.length)),.bool true]) n' h'∧n≤n'∧Gd n' h'∧∀ x,x < n→getO h' x=getO h x:=by
  have hgn:=hg n (Nat.le_refl _)
  have hG:∀ m,n≤m→Gd m h:=fun m hm=>hg.mono hm
  have z0:=X.box
  have hfl:=X.fl
  have hrl:=X.rl
  rw [f21_eq]; unfold c21; rw [callFn_eq (by rfl)]
  have H0:Hp n h (n+5) ((n+4,.row 1 [.bool true]) :: (n+3,.row 1 [.nils]) :: (n+1,(Ob.row 6 [.agg [.int .i64 0,.int .i64 0,.bool false,.str [],.nils,.nils]])) :: (n,.row 1 [.ptr f 0 0])::h) := ((((Hp.start hg).cons (r:=n) (m:=n+1) (Nat.le_refl _) (by omega) (fun k hk=>lowO_one (show low k (.ptr f 0 0) from ble_f (by omega)))).box (r:=n+1) (m:=n+2) (k:=6) (d := (D.agg [.int .i64 0,.int .i64 0,.bool false,.str [],.nils,.nils])) (by omega) (by omega) rfl).box (r:=n+3) (m:=n+4) (by omega) (by omega) rfl).box (r:=n+4) (m:=n+5) (by omega) (by omega) rfl
  have c1:=pMakers (f:=f) (n:=n+8) (H0.good' (show n+5≤n+8 by omega)) (by omega)
  simp (disch:=first|assumption|omega|(simp (disch:=first|assumption|omega) only [sB,reduceAdd,reduceLT,reduceLeDiff,reduceEqDiff,reduceMul,↓reduceIte];done)|fail) only [sA,↓reduceIte,reduceLT,reduceEqDiff,reduceAdd,reduceLeDiff,LX_rng,c1]
  generalize hr0:rngF _ _ _ _ _ _ _ _ _=r0
  obtain ⟨a,b,ha,hb,hr0⟩:=rng_ab hr0
  rw [show a=aT from ha,show b=bT from hb] at hr0
  obtain ⟨m,g,rfl,T⟩:=pTypeL hg X hM hC hs hc hr0
  clear c1 H0 hr0 ha hb
  have hl : (methsT MT F.cs.length).length=F.cs.length:=methsT_len
  generalize methsT MT F.cs.length=Ms at T hl ⊢
  have hle:=T.le
  have gF:getO g f = (Ob.row 21 [.agg [.int .i64 3,.str (F).nm,.int .i64 0,.int .i64 (F).typ.form,.int .i64 (F).typ.n,.bool (F).typ.hid,.str (F).typ.name,slD 2 encL (F).typ.levels,slD 6 encT (F).typ.kids,.int .i64 0,.int .i64 0,.bool false,.str [],.nils,.nils,.int .i64 ((F).P:Nat),.ms 7 (r) 0 (F).cs.length false,slD 6 encT (F).Ps,slD 6 encT (F).Is,.int .i64 (F).so.n,slD 2 encV (F).so.vs]]):=by rw [T.keep f hfl]; exact z0
  have X1:Fat F f r m g:=⟨by omega,by omega,gF,by rw [T.keep r hrl]; exact X.row⟩
  have y1:=T.y1
  have y2:=T.y2
  have y4:=T.y4
  obtain ⟨d,y3,yR⟩:=T.y3
  rcases yR with ⟨e,_⟩ | ⟨rr,rfl,hne,hrr,yr⟩
  · rw [e] at hl; have hl:0=F.cs.length:=hl; omega
  have lR:∀ m g,lenD m g .slice (.ms 6 rr 0 Ms.length false) = .ok (.int .i64 (Ms.length:Nat)) m g:=fun _ _=>rfl
  have c4:∀ m h,Gd m h→callFn (LX (cF Try.prog)) m h [.int .i64 (F.Is.el.length:Nat),.int .i64 0] (cF Try.prog 33) = .ok (slD 6 encT (Sl.app (varsT F.Is.el.length 0))) m h:=fun m h hg=>pVars _ _ (by omega) (by omega) m h hg
  have hG1:∀ k,m≤k→Gd k g:=fun k hk=>T.gd.mono hk
  have hky:∀ k,m≤k→keysFrom k g=[]:=fun k hk=>keys_low (T.gd k hk)
  have eS:appN [r,f] []=[r,f]:=rfl
  have mS:∀ x,n≤x→memN x [r,f]=false:=fun x hx=>by
    rw [memN_cons,memN_cons,decide_eq_false (by omega),decide_eq_false (by omega)]; rfl
  have dS:∀ x,n≤x→disj [r,f] [x]=true:=fun x hx => (disj_eq _ _).2 (fun y hy hy2=>by
    have e:=List.mem_singleton.1 hy2
    have:y=r∨y=f:=by simpa using hy
    omega)
  have hv:∀ k (o:Int),(varsT k o).length=k:=varsT_len
  have v1:=hv F.Is.el.length 0
  obtain ⟨g1,s1,s2,s3⟩:=sub_self (m:=m+17592186044418) T.gd X1 (by omega) hP (1 + (Ms.length:Nat) + (F.Is.el.length:Nat)) (by omega) (Sl.app (varsT F.Is.el.length 0)) (by show (varsT _ _).length≤_; omega)
  rw [reachF X1 rd_slD rfl] at s1
  have hkz:∀ k,m≤k→keysFrom k g1=[]:=fun k hk=>keys_low (s3 k hk)
  have rS:reachC g [.ptr f 0 0,.int .i64 (1 + (Ms.length:Nat) + (F.Is.el.length:Nat)),slD 6 encT (Sl.app (varsT F.Is.el.length 0))] (.fn 32 [] [])=[r,f]:=reachF X1 rd_slD rfl
  have hG2:∀ k,m≤k→Gd k g1:=fun k hk=>s3.mono hk
  have y1':getO g1 n = .row 1 [.ptr f 0 0]:=by rw [s2]; exact y1
  have y3':getO g1 (n+3) = .row 1 [.ms 6 rr 0 Ms.length false]:=by rw [s2]; exact y3
  have gF':getO g1 f = (Ob.row 21 [.agg [.int .i64 3,.str (F).nm,.int .i64 0,.int .i64 (F).typ.form,.int .i64 (F).typ.n,.bool (F).typ.hid,.str (F).typ.name,slD 2 encL (F).typ.levels,slD 6 encT (F).typ.kids,.int .i64 0,.int .i64 0,.bool false,.str [],.nils,.nils,.int .i64 ((F).P:Nat),.ms 7 (r) 0 (F).cs.length false,slD 6 encT (F).Ps,slD 6 encT (F).Is,.int .i64 (F).so.n,slD 2 encV (F).so.vs]]):=by rw [s2]; exact gF
  have yr':getO g1 rr = .row 6 (Ms.map encT):=by rw [s2]; exact yr
  have y2':getO g1 (n+1) = (Ob.row 6 [.agg [.int .i64 0,.int .i64 0,.bool false,.str [],.nils,.nils]]):=by rw [s2]; exact y2
  unfold elimT
  have c5:∀ m h,Gd m h→callFn (LX (cF Try.prog)) m h [.int .i64 (F.Is.el.length:Nat),.int .i64 1] (cF Try.prog 33) = .ok (slD 6 encT (Sl.app (varsT F.Is.el.length 1))) m h:=fun m h hg=>pVars _ _ (by omega) (by omega) m h hg
  have v2:=hv F.Is.el.length 1
  generalize hY:selfT F.nm F.Ps.el.length (1 + (Ms.length:Nat) + (F.Is.el.length:Nat)) (Sl.app (varsT F.Is.el.length 0)).el=Y at s1
  have hY':selfT F.nm F.Ps.el.length (1 + (Ms.length:Nat) + (F.Is.el.length:Nat)) (varsT F.Is.el.length 0)=Y:=hY
  rw [hY']
  generalize varsT F.Is.el.length 1=Q1 at c5 v2 ⊢
  have c6:∀ m h,Gd m h→callFn (LX (cF Try.prog)) m h [.agg [.int .i64 1,.int .i64 (1 + (F.Is.el.length:Nat) + (Ms.length:Nat)),.bool false,.str [],.nils,.nils],slD 6 encT (Sl.app Q1)] (cF Try.prog 34) = .ok (encT (appT (varT (1 + (F.Is.el.length:Nat) + (Ms.length:Nat))) Q1)) m h:=fun m h hg=>pApp (varT (1 + (F.Is.el.length:Nat) + (Ms.length:Nat))) (by omega) m h hg (Sv.slD (s:=Sl.app Q1) encA)
  have c7:∀ m h x,Gd m h→callFn (LX (cF Try.prog)) m h [.int .i64 x] (cF Try.prog 35) = .ok (.agg [.int .i64 1,.int .i64 x,.bool false,.str [],.nils,.nils]) m h:=fun m h x hg=>pVar m h hg x
  generalize appT (varT (1 + (F.Is.el.length:Nat) + (Ms.length:Nat))) Q1=U at c6 ⊢
  have c8:∀ m h,Gd m h→callFn (LX (cF Try.prog)) m h [(D.agg [.int .i64 (U).form,.int .i64 (U).n,.bool (U).hid,.str (U).name,slD 2 encL (U).levels,slD 6 encT (U).kids]),.sl 6 [.agg [.int .i64 1,.int .i64 0,.bool false,.str [],.nils,.nils]] [] true] (cF Try.prog 34) = .ok (encT (two 5 U (varT 0))) m h:=fun m h hg=>pApp U (l:=[varT 0]) (by simp) m h hg (Sv.slD (s:=⟨false,true,[varT 0],[]⟩) encA)
  generalize two 5 U (varT 0)=E at c8 ⊢
  have c9:∀ m h,Gd m h→callFn (LX (cF Try.prog)) m h [slD 6 encT F.Is,.int .i64 (1 + (Ms.length:Nat))] (cF Try.prog 37) = .ok (slD 6 encT (Sl.app (liftedT F.Is.el (1 + (Ms.length:Nat))))) m h:=fun m h hg=>pLifted (1 + (Ms.length:Nat)) (by omega) (by omega) sI m h hg (Sv.slD encA)
  have v3 : (liftedT F.Is.el (1 + (Ms.length:Nat))).length=F.Is.el.length:=by simp [liftedT]
  generalize liftedT F.Is.el (1 + (Ms.length:Nat))=L at c9 v3 ⊢
  have c10:∀ m h,Gd m h→callFn (LX (cF Try.prog)) m h [.int .i64 3,.bool false,(D.agg [.int .i64 (Y).form,.int .i64 (Y).n,.bool (Y).hid,.str (Y).name,slD 2 encL (Y).levels,slD 6 encT (Y).kids]),(D.agg [.int .i64 (E).form,.int .i64 (E).n,.bool (E).hid,.str (E).name,slD 2 encL (E).levels,slD 6 encT (E).kids])] (cF Try.prog 38) = .ok (encT (two 3 Y E)) m h:=fun m h hg=>pBind 3 Y E m h hg
  generalize two 3 Y E=Z at c10 ⊢
  have c11:∀ m h,Gd m h→callFn (LX (cF Try.prog)) m h [slD 6 encT (Sl.app L),(D.agg [.int .i64 (Z).form,.int .i64 (Z).n,.bool (Z).hid,.str (Z).name,slD 2 encL (Z).levels,slD 6 encT (Z).kids])] (cF Try.prog 36) = .ok (encT (pisT L Z)) m h:=fun m h hg=>pPis Z (by omega) m h hg (Sv.slD (s:=Sl.app L) encA)
  generalize pisT L Z=T3 at c11 ⊢
  rw [encT_eq] at s1 c6 c8 c10 c11
  unfold eT
  simp (disch:=first|assumption|omega|(simp (disch:=first|assumption|omega) only [sB,reduceAdd,reduceLT,reduceLeDiff,reduceEqDiff,reduceMul,↓reduceIte,hG1,hG2,gd_nil,gd_tm,getO_tl];done)|fail) only [sA,↓reduceIte,reduceLT,reduceEqDiff,reduceAdd,reduceLeDiff,y4,y1,gF,y3,y1',y3',gF',y2',lR,rS,s1,c4,c5,c6,c7,c8,c9,c10,c11,tr_nilck,eS,mS,dS,hky,hkz,keys_gd,apartR_cons,apartC_cons,hG1,hG2,gd_nil,gd_tm,getO_tl]
  generalize hh : ((m+32985348833300,Ob.row 6 [_])::_:Hps)=G3
  have gd1:∀ {k q:Nat} {t:Tm} {g:Hps},q < k→Gd k g→Gd k ((q,(Ob.row 6 [.agg [.int .i64 (t).form,.int .i64 (t).n,.bool (t).hid,.str (t).name,slD 2 encL (t).levels,slD 6 encT (t).kids]]))::g):=fun hq hg=>by rw [gd_tm hq]; exact hg
  have GG:Gd (m+32985348833301) G3:=by
    rw [← hh]
    exact gd1 (by omega) (gd1 (by omega) (gd1 (by omega) (hG2 _ (by omega))))
  have gg:∀ x,x < m→getO G3 x=getO g1 x:=fun x hx=>by
    rw [← hh,getO_tl (by omega),getO_tl (by omega),getO_tl (by omega)]
  have g3:getO G3 (m+32985348833300) = (Ob.row 6 [.agg [.int .i64 (T3).form,.int .i64 (T3).n,.bool (T3).hid,.str (T3).name,slD 2 encL (T3).levels,slD 6 encT (T3).kids]]):=by rw [← hh,getO_hd]
  clear hh
  have rl:rr < m:=getO_low (T.gd m (Nat.le_refl _)) (by rw [yr]; simp)
  have u1:getO G3 n = .row 1 [.ptr f 0 0]:=by rw [gg _ (by omega)]; exact y1'
  have u3:getO G3 (n+3) = .row 1 [.ms 6 rr 0 Ms.length false]:=by rw [gg _ (by omega)]; exact y3'
  have uF:getO G3 f = (Ob.row 21 [.agg [.int .i64 3,.str (F).nm,.int .i64 0,.int .i64 (F).typ.form,.int .i64 (F).typ.n,.bool (F).typ.hid,.str (F).typ.name,slD 2 encL (F).typ.levels,slD 6 encT (F).typ.kids,.int .i64 0,.int .i64 0,.bool false,.str [],.nils,.nils,.int .i64 ((F).P:Nat),.ms 7 (r) 0 (F).cs.length false,slD 6 encT (F).Ps,slD 6 encT (F).Is,.int .i64 (F).so.n,slD 2 encV (F).so.vs]]):=by rw [gg _ (by omega)]; exact gF'
  have ur:getO G3 rr = .row 6 (Ms.map encT):=by rw [gg _ (by omega)]; exact yr'
  have u2:getO G3 (n+1) = (Ob.row 6 [.agg [.int .i64 0,.int .i64 0,.bool false,.str [],.nils,.nils]]):=by rw [gg _ (by omega)]; exact y2'
  have uC:getO G3 r = .row 7 (F.cs.map encC):=by rw [gg _ (by omega),s2]; exact X1.row
  have X3:Fat F f r (m+32985348833301) G3:=⟨by omega,by omega,uF,uC⟩
  obtain ⟨g2,t1,t2,t3⟩:=sub_motive (m:=m+40681930227732) GG X3 (by omega) hP hI
  rw [reachF1 X3 rfl] at t1
  have rM:reachC G3 [.ptr f 0 0] (.fn 39 [] [])=[r,f]:=reachF1 X3 rfl
  have hw:changed G3 g2 [r,f]=[]:=changed_nil fun q hq=>by
    have:q=r∨q=f:=by simpa using hq
    rcases this with rfl | rfl
    · rw [t2,uC]; exact q2
    · rw [t2,uF]; exact q1
  have w3:getO g2 (n+3) = .row 1 [.ms 6 rr 0 Ms.length false]:=by rw [t2]; exact u3
  have wr:getO g2 rr = .row 6 (Ms.map encT):=by rw [t2]; exact ur
  have w4:getO g2 (m+32985348833300) = (Ob.row 6 [.agg [.int .i64 (T3).form,.int .i64 (T3).n,.bool (T3).hid,.str (T3).name,slD 2 encL (T3).levels,slD 6 encT (T3).kids]]):=by rw [t2]; exact g3
  generalize motT F.nm F.Ps.el.length F.Is.el=MO at t1 ⊢
  rw [encT_eq] at t1
  have k3:∀ k,m+32985348833301≤k→keysFrom k G3=[]:=fun k hk=>keys_low (GG k hk)
  have k2:∀ k,m+32985348833301≤k→keysFrom k g2=[]:=fun k hk=>keys_low (t3 k hk)
  obtain ⟨g4,p1,p2,p3⟩:=sub_pis (m:=m+43980465111060) (t:=T3) t3 wr (by omega) ⟨hne,by omega⟩ (by omega)
  have rP:reachC g2 [.ms 6 rr 0 Ms.length false,(D.agg [.int .i64 (T3).form,.int .i64 (T3).n,.bool (T3).hid,.str (T3).name,slD 2 encL (T3).levels,slD 6 encT (T3).kids])] (.fn 36 [] [])=[rr]:=reach_ms wr rfl
  have eR:appN [rr] []=[rr]:=rfl
  have dR:∀ x,x≤n+13→disj [rr] [x]=true:=fun x hx => (disj_eq _ _).2 (fun y hy hy2=>by
    have e:=List.mem_singleton.1 hy2
    have:=List.mem_singleton.1 hy
    omega)
  have hG4:∀ k,m+32985348833301≤k→Gd k g4:=fun k hk=>p3.mono hk
  have k4:∀ k,m+32985348833301≤k→keysFrom k g4=[]:=fun k hk=>keys_low (p3 k hk)
  generalize pisT Ms T3=T4 at p1 ⊢
  have c12:∀ m h,Gd m h→callFn (LX (cF Try.prog)) m h [.int .i64 3,.bool false,(D.agg [.int .i64 (MO).form,.int .i64 (MO).n,.bool (MO).hid,.str (MO).name,slD 2 encL (MO).levels,slD 6 encT (MO).kids]),(D.agg [.int .i64 (T4).form,.int .i64 (T4).n,.bool (T4).hid,.str (T4).name,slD 2 encL (T4).levels,slD 6 encT (T4).kids])] (cF Try.prog 38) = .ok (encT (two 3 MO T4)) m h:=fun m h hg=>pBind 3 MO T4 m h hg
  generalize two 3 MO T4=T5 at c12 ⊢
  have c13:∀ m h,Gd m h→callFn (LX (cF Try.prog)) m h [slD 6 encT F.Ps,(D.agg [.int .i64 (T5).form,.int .i64 (T5).n,.bool (T5).hid,.str (T5).name,slD 2 encL (T5).levels,slD 6 encT (T5).kids])] (cF Try.prog 36) = .ok (encT (pisT F.Ps.el T5)) m h:=fun m h hg=>pPis T5 (by omega) m h hg (Sv.slD encA)
  generalize pisT F.Ps.el T5=T6 at c13 ⊢
  have x2:getO g4 (n+1) = (Ob.row 6 [.agg [.int .i64 0,.int .i64 0,.bool false,.str [],.nils,.nils]]):=by rw [p2,t2]; exact u2
  have x2':∀ o,getO (setO g4 (n+1) o) (n+1)=o:=fun o=>getO_setO_same (by rw [x2]; simp)
  rw [encT_eq] at p1 c12 c13
  rw [encT_eq]
  simp (disch:=first|assumption|omega|(simp (disch:=first|assumption|omega) only [sB,reduceAdd,reduceLT,reduceLeDiff,reduceEqDiff,reduceMul,↓reduceIte,hG4,gd_nil,gd_tm,getO_tl];done)|fail) only [sA,↓reduceIte,reduceLT,reduceEqDiff,reduceAdd,reduceLeDiff,u1,u3,uF,rM,t1,hw,w3,w4,rP,p1,c12,c13,x2,x2',eS,mS,dS,eR,dR,k3,k2,k4,tr_nilck,apartR_cons,apartC_cons,writR_call,hG4,gd_nil,gd_tm,getO_tl]
  have hG5:Gd (m+49478023249940) (setO g4 (n+1) (Ob.row 6 [.agg [.int .i64 (T6).form,.int .i64 (T6).n,.bool (T6).hid,.str (T6).name,slD 2 encL (T6).levels,slD 6 encT (T6).kids]])):=fun k hk=>good_set (hG4 k (by omega) k (Nat.le_refl _)) (lowO_one (low_flat (flatTA T6)))
  obtain ⟨n',h',f1,f2,f3,f4⟩:=fin_flat (n:=n) (m:=m+49478023249940) (d := .tup [(D.agg [.int .i64 (T6).form,.int .i64 (T6).n,.bool (T6).hid,.str (T6).name,slD 2 encL (T6).levels,slD 6 encT (T6).kids]),.bool true]) (by rw [flat_tup,List.all_cons,List.all_cons,List.all_nil,show flat2 (D.agg [.int .i64 (T6).form,.int .i64 (T6).n,.bool (T6).hid,.str (T6).name,slD 2 encL (T6).levels,slD 6 encT (T6).kids])=true from flatTA T6]; rfl) (by omega) hG5
  refine ⟨n',h',f1,f2,f3,fun x hx=>?_⟩
  rw [f4 x hx,getO_setO _ _ _ _ (by rw [x2]; simp),if_neg (by omega),p2,t2,gg x (by omega),s2]
  exact T.keep x hx
end Go.Proofs.Ytpbpmpabndgeeaa
set_option linter.unusedSimpArgs false
set_option linter.unusedVariables false
namespace Go.Proofs.Ytpbpmpabndgeeaa
open Go
open Nat (reduceAdd reduceLT reduceLeDiff reduceEqDiff reduceMul)

def hdT (l:List Tm) (p:Nat):Sl Tm:=⟨l.isEmpty,true,l.take p,[]⟩
theorem slc3_hd {n:Nat} {h:Hps} {l:List Tm} {p:Nat} {k1 k2:IntKind} (hp:p≤l.length):slc3 n h 6 (slD 6 encT (Sl.app l)) (.int k1 (p:Nat)) (.int k2 (p:Nat)) = .ok (slD 6 encT (hdT l p)) n h:=by
  cases l with
  | nil =>
    have:p=0:=by simpa using hp
    subst this
    rfl
  | cons a t =>
    show ifR (Bool.and (Nat.ble 0 p) (Bool.and (Nat.ble p p) (Nat.ble p (lenL ((a::t).map encT)+lenL [])))) (.ok (.sl 6 (takeL (p - 0) (dropL 0 (appL ((a::t).map encT) []))) (dropL p (takeL p (appL ((a::t).map encT) []))) (Nat.beq p p)) n h) = .ok (.sl 6 (((a::t).take p).map encT) [] true) n h
    rw [lenL_eq,List.length_map,ble_iff,ble_iff,ble_iff,decide_eq_true (Nat.zero_le _),decide_eq_true (Nat.le_refl _),decide_eq_true (show p ≤ (a::t).length+lenL [] from Nat.le_trans hp (Nat.le_add_right _ _)),Nat.beq_refl,appL_eq,takeL_eq,takeL_eq,dropL_eq,dropL_eq,List.drop_zero,Nat.sub_zero,List.append_nil,List.drop_of_length_le (by rw [List.length_take]; omega),List.map_take]
    rfl
theorem lowF {F:Fa} {r k:Nat} (hr:r < k):lowO k (Ob.row 21 [.agg [.int .i64 3,.str (F).nm,.int .i64 0,.int .i64 (F).typ.form,.int .i64 (F).typ.n,.bool (F).typ.hid,.str (F).typ.name,slD 2 encL (F).typ.levels,slD 6 encT (F).typ.kids,.int .i64 0,.int .i64 0,.bool false,.str [],.nils,.nils,.int .i64 ((F).P:Nat),.ms 7 (r) 0 (F).cs.length false,slD 6 encT (F).Ps,slD 6 encT (F).Is,.int .i64 (F).so.n,slD 2 encV (F).so.vs]]):=lowO_one (low_agg fun d hd=>by
  have sl:∀ {α:Type} (enc:α→D) (q:Nat) (s:Sl α),hasR k 19 (slD q enc s)=false:=fun enc q s => (plain 16 flat_slD).hasR k
  simp only [List.mem_cons,List.mem_singleton,List.not_mem_nil] at hd
  rcases hd with rfl | rfl | rfl | rfl | rfl | rfl | rfl | rfl | rfl | rfl | rfl | rfl | rfl | rfl | rfl | rfl | rfl | rfl | rfl | rfl | rfl | hd <;> first | exact sl _ _ _ | rfl | exact ble_f hr | exact absurd hd id)
theorem lowFD {F:Fa} {r k:Nat} (hr:r < k):lowO k (.row 17 [(D.agg [.int .i64 3,.str (F).nm,.int .i64 0,.int .i64 (F).typ.form,.int .i64 (F).typ.n,.bool (F).typ.hid,.str (F).typ.name,slD 2 encL (F).typ.levels,slD 6 encT (F).typ.kids,.int .i64 0,.int .i64 0,.bool false,.str [],.nils,.nils,.int .i64 ((F).P:Nat),.ms 7 (r) 0 (F).cs.length false])]):=lowO_one (low_agg fun d hd=>by
  have sl:∀ {α:Type} (enc:α→D) (q:Nat) (s:Sl α),hasR k 19 (slD q enc s)=false:=fun enc q s => (plain 16 flat_slD).hasR k
  simp only [List.mem_cons,List.mem_singleton,List.not_mem_nil] at hd
  rcases hd with rfl | rfl | rfl | rfl | rfl | rfl | rfl | rfl | rfl | rfl | rfl | rfl | rfl | rfl | rfl | rfl | rfl | hd <;> first | exact sl _ _ _ | rfl | exact ble_f hr | exact absurd hd id)
set_option maxHeartbeats 8000000 in
theorem pOf {F:Fa} {r n:Nat} {l:List Tm} {t:Tm} {h:Hps} (hg:Gd n h) (hr:r < n) (yr:getO h r = .row 7 (F.cs.map encC)) (ht:formedT F.typ.abs=true) (hs:sizeT F.typ.abs≤100000) (h1:strp F.typ = (l,t)) (h2:t.form=2)
    (hP:F.P≤l.length) (hl:0 < t.levels.el.length) (h3:t.levels.el[0]=F.so) (h4:F.Ps=hdT l F.P) (h5:F.Is = (Sl.app l).cut F.P l.length) (h6:F.P≤1000000) :
    ∃ n' h' q,callFn (LX (cF Try.prog)) n h [(D.agg [.int .i64 3,.str (F).nm,.int .i64 0,.int .i64 (F).typ.form,.int .i64 (F).typ.n,.bool (F).typ.hid,.str (F).typ.name,slD 2 encL (F).typ.levels,slD 6 encT (F).typ.kids,.int .i64 0,.int .i64 0,.bool false,.str [],.nils,.nils,.int .i64 ((F).P:Nat),.ms 7 (r) 0 (F).cs.length false])] (cF Try.prog 29) = .ok (.tup [.ptr q 0 0,.bool true]) n' h'∧Hp n h n' h'∧Fat F q r n' h'∧n≤q:=by
  have hgn:=hg n (Nat.le_refl _)
  have H0:Hp n h (n+1) ((n,.row 17 [(D.agg [.int .i64 3,.str (F).nm,.int .i64 0,.int .i64 (F).typ.form,.int .i64 (F).typ.n,.bool (F).typ.hid,.str (F).typ.name,slD 2 encL (F).typ.levels,slD 6 encT (F).typ.kids,.int .i64 0,.int .i64 0,.bool false,.str [],.nils,.nils,.int .i64 ((F).P:Nat),.ms 7 (r) 0 (F).cs.length false])])::h) := (Hp.start hg).cons (r:=n) (m:=n+1) (Nat.le_refl _) (by omega) (fun k hk=>lowFD (by omega))
  have c1:∀ m,n+1≤m→callFn (LX (cF Try.prog)) m ((n,.row 17 [(D.agg [.int .i64 3,.str (F).nm,.int .i64 0,.int .i64 (F).typ.form,.int .i64 (F).typ.n,.bool (F).typ.hid,.str (F).typ.name,slD 2 encL (F).typ.levels,slD 6 encT (F).typ.kids,.int .i64 0,.int .i64 0,.bool false,.str [],.nils,.nils,.int .i64 ((F).P:Nat),.ms 7 (r) 0 (F).cs.length false])])::h) [(D.agg [.int .i64 (F.typ).form,.int .i64 (F.typ).n,.bool (F.typ).hid,.str (F.typ).name,slD 2 encL (F.typ).levels,slD 6 encT (F.typ).kids])] (cF Try.prog 42) = .ok (.tup [slD 6 encT (Sl.app l),(D.agg [.int .i64 (t).form,.int .i64 (t).n,.bool (t).hid,.str (t).name,slD 2 encL (t).levels,slD 6 encT (t).kids])]) m ((n,.row 17 [(D.agg [.int .i64 3,.str (F).nm,.int .i64 0,.int .i64 (F).typ.form,.int .i64 (F).typ.n,.bool (F).typ.hid,.str (F).typ.name,slD 2 encL (F).typ.levels,slD 6 encT (F).typ.kids,.int .i64 0,.int .i64 0,.bool false,.str [],.nils,.nils,.int .i64 ((F).P:Nat),.ms 7 (r) 0 (F).cs.length false])])::h):=fun m hm=>by
    have:=pStrip F.typ ht hs m _ (fun k hk=>H0.good k (by omega))
    rw [h1,encT_eq] at this
    exact this
  have q1:¬ ((l.length:Nat):Int) < (F.P:Nat):=by omega
  have i1:∀ m h,iaddrD m h 2 (slD 2 encL t.levels) 0 = .ok (.ip (encL F.so) 0) m h:=fun m h=>by rw [iaddr_slD hl,h3]
  have sl2:∀ m g,slcX m g 6 encT (Sl.app l) (.int .i64 (F.P:Nat)) (.int .i64 (l.length:Nat)) = .ok (slD 6 encT F.Is) m g:=fun m g=>by
    show (if F.P≤l.length∧l.length≤l.length+0 then Rd.ok (slD 6 encT ((Sl.app l).cut F.P l.length)) m g else .bad)=_
    rw [if_pos ⟨by omega,Nat.le_refl _⟩,h5]
  have sl3:∀ m g k1 k2,slc3 m g 6 (slD 6 encT (Sl.app l)) (.int k1 (F.P:Nat)) (.int k2 (F.P:Nat)) = .ok (slD 6 encT F.Ps) m g:=fun m g k1 k2=>by rw [slc3_hd hP,h4]
  have i2:encL F.so = .agg [.int .i64 F.so.n,slD 2 encV F.so.vs]:=rfl
  rw [i2] at i1
  rw [f29_eq]; unfold c29; rw [callFn_eq (by rfl)]
  simp (disch:=first|assumption|omega|(simp (disch:=first|assumption|omega) only [sB,reduceAdd,reduceLT,reduceLeDiff,reduceEqDiff,reduceMul,↓reduceIte];done)|fail) only [sA,↓reduceIte,reduceLT,reduceEqDiff,reduceAdd,reduceLeDiff,c1,h2,q1,i1,slice3_eq,sl2,sl3]
  rw [fin_hasP (hasP_tup (by omega))]
  have H1:Hp n h (n+20890720927772) ((n+17592186044444,(Ob.row 21 [.agg [.int .i64 3,.str (F).nm,.int .i64 0,.int .i64 (F).typ.form,.int .i64 (F).typ.n,.bool (F).typ.hid,.str (F).typ.name,slD 2 encL (F).typ.levels,slD 6 encT (F).typ.kids,.int .i64 0,.int .i64 0,.bool false,.str [],.nils,.nils,.int .i64 ((F).P:Nat),.ms 7 (r) 0 (F).cs.length false,slD 6 encT (F).Ps,slD 6 encT (F).Is,.int .i64 (F).so.n,slD 2 encV (F).so.vs]])) :: (n+10,(Ob.row 6 [.agg [.int .i64 (t).form,.int .i64 (t).n,.bool (t).hid,.str (t).name,slD 2 encL (t).levels,slD 6 encT (t).kids]])) :: (n,.row 17 [(D.agg [.int .i64 3,.str (F).nm,.int .i64 0,.int .i64 (F).typ.form,.int .i64 (F).typ.n,.bool (F).typ.hid,.str (F).typ.name,slD 2 encL (F).typ.levels,slD 6 encT (F).typ.kids,.int .i64 0,.int .i64 0,.bool false,.str [],.nils,.nils,.int .i64 ((F).P:Nat),.ms 7 (r) 0 (F).cs.length false])])::h) := (((H0.box (r:=n+10) (m:=n+11) (by omega) (by omega) (flatTA t)).cons (r:=n+17592186044444) (m:=n+17592186044445) (by omega) (by omega) (fun k hk=>lowF (by omega))).mono (by omega))
  rw [h2] at H1
  exact ⟨_,_,n+17592186044444,rfl,H1,⟨by omega,by omega,getO_hd,by rw [H1.get hr]; exact yr⟩,by omega⟩
set_option maxHeartbeats 4000000 in
theorem pEtold {T:Tm} {n:Nat} {h:Hps} (hg:Gd n h) (hs:Sm T) (h1:saneT T.abs=true) (hc:checkT T.abs=0):callFn (LX (cF Try.prog)) n h [(D.agg [.int .i64 (T).form,.int .i64 (T).n,.bool (T).hid,.str (T).name,slD 2 encL (T).levels,slD 6 encT (T).kids])] (cF Try.prog 22) = .ok (.tup [encT (copyT T),.int .i64 0]) n h:=by
  have hgn:=hg n (Nat.le_refl _)
  have H0:Hp n h (n+2) ((n+1,(Ob.row 6 [.agg [.int .i64 0,.int .i64 0,.bool false,.str [],.nils,.nils]])) :: (n,(Ob.row 6 [.agg [.int .i64 (T).form,.int .i64 (T).n,.bool (T).hid,.str (T).name,slD 2 encL (T).levels,slD 6 encT (T).kids]]))::h) := ((Hp.start hg).box (r:=n) (m:=n+1) (Nat.le_refl _) (by omega) (flatTA T)).box (r:=n+1) (m:=n+2) (k:=6) (d := (D.agg [.int .i64 0,.int .i64 0,.bool false,.str [],.nils,.nils])) (by omega) (by omega) rfl
  have c1:∀ m,n+2≤m→callFn (LX (cF Try.prog)) m ((n+1,(Ob.row 6 [.agg [.int .i64 0,.int .i64 0,.bool false,.str [],.nils,.nils]])) :: (n,(Ob.row 6 [.agg [.int .i64 (T).form,.int .i64 (T).n,.bool (T).hid,.str (T).name,slD 2 encL (T).levels,slD 6 encT (T).kids]]))::h) [(D.agg [.int .i64 (T).form,.int .i64 (T).n,.bool (T).hid,.str (T).name,slD 2 encL (T).levels,slD 6 encT (T).kids])] (cF Try.prog 40) = .ok (.int .i64 0) m ((n+1,(Ob.row 6 [.agg [.int .i64 0,.int .i64 0,.bool false,.str [],.nils,.nils]])) :: (n,(Ob.row 6 [.agg [.int .i64 (T).form,.int .i64 (T).n,.bool (T).hid,.str (T).name,slD 2 encL (T).levels,slD 6 encT (T).kids]]))::h):=fun m hm=>by
    have:=pCheck T h1 m _ (H0.good' hm)
    rw [hc] at this
    exact this
  have c2:∀ m,n+2≤m→callFn (LX (cF Try.prog)) m ((n+1,(Ob.row 6 [.agg [.int .i64 0,.int .i64 0,.bool false,.str [],.nils,.nils]])) :: (n,(Ob.row 6 [.agg [.int .i64 (T).form,.int .i64 (T).n,.bool (T).hid,.str (T).name,slD 2 encL (T).levels,slD 6 encT (T).kids]]))::h) [(D.agg [.int .i64 (T).form,.int .i64 (T).n,.bool (T).hid,.str (T).name,slD 2 encL (T).levels,slD 6 encT (T).kids])] (cF Try.prog 41) = .ok (encT (copyT T)) m ((n+1,(Ob.row 6 [.agg [.int .i64 0,.int .i64 0,.bool false,.str [],.nils,.nils]])) :: (n,(Ob.row 6 [.agg [.int .i64 (T).form,.int .i64 (T).n,.bool (T).hid,.str (T).name,slD 2 encL (T).levels,slD 6 encT (T).kids]]))::h):=fun m hm=>pCopy' m _ (H0.good' hm) T hs
  generalize copyT T=U at c2 ⊢
  rw [encT_eq] at c2 ⊢
  rw [f22_eq]; unfold c22; rw [callFn_eq (by rfl)]
  simp (disch:=first|assumption|omega|(simp (disch:=first|assumption|omega) only [sB,reduceAdd,reduceLT,reduceLeDiff,reduceEqDiff,reduceMul,↓reduceIte];done)|fail) only [sA,↓reduceIte,reduceLT,reduceEqDiff,reduceAdd,reduceLeDiff,c1,c2]
end Go.Proofs.Ytpbpmpabndgeeaa
