/- Lift of package term: what it tells, kept as it lies. No condition but sizes. -/
import Derived.Test.YtdijijblccmfbaaVE
import Derived.Test.YtdijijblccmfbaaNTME
set_option linter.unusedSimpArgs false
set_option linter.unusedVariables false
namespace Go.Proofs.Ytdijijblccmfbaa
open Go
open Nat (reduceAdd reduceLT reduceLeDiff reduceEqDiff reduceMul)

theorem leafC:∀ t d L x,gC t d L=some x→∃ v,x = (varT v,L):=fun t d L x h=>by cases h
theorem leafL {a b:Int}:∀ t d L x,gL a b t d L=some x→∃ v,x = (varT v,L):=fun t d L x h=>by
  unfold gL at h
  split at h
  · cases h; exact ⟨_,rfl⟩
  · cases h
set_option maxHeartbeats 4000000 in
theorem pCopyK (n:Nat) (h:Hps) (hg:Gd n h) (t:Tm) (ht:slimT t.abs=true) (hs:sizeT t.abs≤100000) (hh:highT t.abs≤2000):∃ d n2 h' rs,callFn (LX (cFk kL Try.prog)) n h [(D.agg [.int .i64 (t).form,.int .i64 (t).n,.bool (t).hid,.str (t).name,slD 2 encL (t).levels,slD 6 encT (t).kids])] (cFk kL Try.prog 59) = .ok d n2 h'∧Tq h' (runM gC t 0 1099511627776).1 d rs∧Kq n h n2 h' rs:=by
  have hgn:=hg n (Nat.le_refl _)
  have hG:∀ m,n≤m→Gd m h:=fun m hm=>hg.mono hm
  have H:Hp n h (n+1099511627781) ((n+1099511627780,.row 1 [.int .i64 1099511627776]) :: (n+1,(Ob.row 6 [.agg [.int .i64 0,.int .i64 0,.bool false,.str [],.nils,.nils]])) :: (n,(Ob.row 6 [.agg [.int .i64 (t).form,.int .i64 (t).n,.bool (t).hid,.str (t).name,slD 2 encL (t).levels,slD 6 encT (t).kids]]))::h) := (((Hp.start hg).box (r:=n) (m:=n+1) (Nat.le_refl _) (by omega) (flatTA t)).box (r:=n+1) (m:=n+2) (k:=6) (d := (D.agg [.int .i64 0,.int .i64 0,.bool false,.str [],.nils,.nils])) (by omega) (by omega) rfl).box (r:=n+1099511627780) (by omega) (by omega) rfl
  obtain ⟨d,N,h2,hb1,rs,e2,T,K,U,hN⟩:=mapRunK (r:=n+1099511627780) steadyC leafC (c := .fn 93 [] []) rfl rfl rfl doesCK t ht hs hh 0 1099511627776 (Int.le_refl _) (by omega) (by omega) (by omega) (n+2199023255555) _ (fun k hk=>H.good k (by omega)) (by omega) getO_hd
  have hle:=K.hp.le
  have w1:getO h2 (n+1) = (Ob.row 6 [.agg [.int .i64 0,.int .i64 0,.bool false,.str [],.nils,.nils]]):=by rw [K.hp.get (by omega),U.get (by omega),getO_tl (by omega),getO_hd]
  have w2:∀ X,getO (setO h2 (n+1) X) (n+1)=X:=fun X=>getO_setO_same (by rw [w1]; simp)
  have H2 := ((Cnt.own H U (by omega) (by omega)).mono (show n+1099511627781≤n+2199023255555 by omega)).comp K.hp
  have hhi:=run_high leafC t 0 1099511627776
  generalize (runM gC t 0 1099511627776).1=X at T hhi ⊢
  obtain ⟨lv,kd,rfl,r1,r2⟩:=T.form
  have hlow:∀ k,N≤k→lowO k (.row 6 [.agg [.int .i64 X.form,.int .i64 X.n,.bool X.hid,.str X.name,lv,kd]]):=fun k hk=>lowO_one (T.low (fun q hq=>by have:=K.ge q hq; omega))
  rw [f59_eq]; unfold c59; rw [callFn_eqK (by rfl)]
  simp (disch:=first|assumption|omega|(simp (disch:=first|assumption|omega) only [sB,reduceAdd,reduceLT,reduceLeDiff,reduceEqDiff,reduceMul,↓reduceIte,gd_tm,gd_zt,hG];done)|fail) only [sA,↓reduceIte,reduceLT,reduceEqDiff,reduceAdd,reduceLeDiff,pNone,pureC_new,e2,w1,w2,keys_new,keys_gd,gd_tm,gd_zt,hG]
  have T2:Tq (setO h2 (n+1) (.row 6 [.agg [.int .i64 X.form,.int .i64 X.n,.bool X.hid,.str X.name,lv,kd]])) X _ rs:=Tq.congr _ _ _ T (fun q hq=>by have:=K.ge q hq; rw [getO_ne (by omega)])
  obtain ⟨d',h',rs',e,T',K'⟩:=keep_tm ((H2.set (r:=n+1) (by omega) hlow).mono (show N≤n+4398046511106 by omega)) hg T2 (by omega) K.nd (fun q hq=>by have:=K.ge q hq; omega)
  exact ⟨d',_,h',rs',e,T',K'⟩
theorem finish_tq {n m:Nat} {h G:Hps} {X:Tm} {d:D} {rs:List Nat} (H:Hp n h m G) (T:Tq G X d rs) (hh:highT X.abs≤2000) (hn:∀ r,r∈rs→n≤r):finishD n m G d = .ok (encT X) n h:=by
  have hz:=Tq.frz X d rs T hn 5000 (by omega)
  obtain ⟨lv,kd,rfl,r1,r2⟩:=T.form
  have hp:∀ {y:D} {rs:List Nat},rowD rs y→hasP n 19 y=false:=fun {y rs} hy=>by
    rcases hy with rfl | ⟨k,r,len,hr,rfl⟩ <;> rfl
  have e1:hasP n 20 (.agg [.int .i64 X.form,.int .i64 X.n,.bool X.hid,.str X.name,lv,kd])=false:=by
    show Bool.not (allL (fun d=>Bool.not (hasP n 19 d)) [.int .i64 X.form,.int .i64 X.n,.bool X.hid,.str X.name,lv,kd])=false
    rw [allL_eq,List.all_cons,List.all_cons,List.all_cons,List.all_cons,List.all_cons,List.all_cons,List.all_nil,hp r1,hp r2]
    rfl
  have P:=plain2 18 (elemT.flat X)
  unfold finishD
  rw [e1,H.leak,hz]
  show finishF n m G _ (encT X)=_
  unfold finishF
  rw [P.hasJ,P.hasR,H.drop]
  rfl
set_option maxHeartbeats 4000000 in
theorem pLiftK (n:Nat) (h:Hps) (hg:Gd n h) (t:Tm) (a b:Int) (ha:0≤a∧a≤10000000) (hb:0≤b∧b≤10000000) (ht:slimT t.abs=true) (hs:sizeT t.abs≤100000) (hh:highT t.abs≤2000):callFn (LX (cFk kL Try.prog)) n h [(D.agg [.int .i64 (t).form,.int .i64 (t).n,.bool (t).hid,.str (t).name,slD 2 encL (t).levels,slD 6 encT (t).kids]),.int .i64 a,.int .i64 b] (cFk kL Try.prog 60) = .ok (encT (if a=0∧b=0 then t else (runM (gL a b) t 0 1099511627776).1)) n h:=by
  have hgn:=hg n (Nat.le_refl _)
  have hG:∀ m,n≤m→Gd m h:=fun m hm=>hg.mono hm
  by_cases hab:a=0∧b=0
  · obtain ⟨rfl,rfl⟩:=hab
    rw [if_pos ⟨rfl,rfl⟩,encT_eq]
    rw [f60_eq]; unfold c60; rw [callFn_eq (by rfl)]
    simp (disch:=first|assumption|omega|(simp (disch:=first|assumption|omega) only [sB,reduceAdd,reduceLT,reduceLeDiff,reduceEqDiff,reduceMul,↓reduceIte,gd_tm,hG];done)|fail) only [sA,↓reduceIte,reduceLT,reduceEqDiff,reduceAdd,reduceLeDiff,hG,gd_tm,hG]
  rw [if_neg hab]
  have H:Hp n h (n+1099511627787) ((n+1099511627786,.row 1 [.int .i64 1099511627776]) :: (n+1,(Ob.row 6 [.agg [.int .i64 0,.int .i64 0,.bool false,.str [],.nils,.nils]])) :: (n,(Ob.row 6 [.agg [.int .i64 (t).form,.int .i64 (t).n,.bool (t).hid,.str (t).name,slD 2 encL (t).levels,slD 6 encT (t).kids]]))::h) := (((Hp.start hg).box (r:=n) (m:=n+1) (Nat.le_refl _) (by omega) (flatTA t)).box (r:=n+1) (m:=n+2) (k:=6) (d := (D.agg [.int .i64 0,.int .i64 0,.bool false,.str [],.nils,.nils])) (by omega) (by omega) rfl).box (r:=n+1099511627786) (by omega) (by omega) rfl
  obtain ⟨d,N,h2,hb1,rs,e2,T,K,U,hN⟩:=mapRunK (r:=n+1099511627786) (steadyL a b) leafL (c := .fn 94 [.agg [.int .i64 a,.int .i64 b]] []) rfl rfl rfl (doesLK ha hb) t ht hs hh 0 1099511627776 (Int.le_refl _) (by omega) (by omega) (by omega) (n+6597069766665) _ (fun k hk=>H.good k (by omega)) (by omega) getO_hd
  have hle:=K.hp.le
  have w1:getO h2 (n+1) = (Ob.row 6 [.agg [.int .i64 0,.int .i64 0,.bool false,.str [],.nils,.nils]]):=by rw [K.hp.get (by omega),U.get (by omega),getO_tl (by omega),getO_hd]
  have w2:∀ X,getO (setO h2 (n+1) X) (n+1)=X:=fun X=>getO_setO_same (by rw [w1]; simp)
  have H2 := ((Cnt.own H U (by omega) (by omega)).mono (show n+1099511627787≤n+6597069766665 by omega)).comp K.hp
  have hhi:=run_high (leafL (a:=a) (b:=b)) t 0 1099511627776
  generalize (runM (gL a b) t 0 1099511627776).1=X at T hhi ⊢
  obtain ⟨lv,kd,rfl,r1,r2⟩:=T.form
  have hlow:∀ k,N≤k→lowO k (.row 6 [.agg [.int .i64 X.form,.int .i64 X.n,.bool X.hid,.str X.name,lv,kd]]):=fun k hk=>lowO_one (T.low (fun q hq=>by have:=K.ge q hq; omega))
  have T2:Tq (setO h2 (n+1) (.row 6 [.agg [.int .i64 X.form,.int .i64 X.n,.bool X.hid,.str X.name,lv,kd]])) X _ rs:=Tq.congr _ _ _ T (fun q hq=>by have:=K.ge q hq; rw [getO_ne (by omega)])
  have fin:=fun m (hm:N≤m)=>finish_tq ((H2.set (r:=n+1) (by omega) hlow).mono hm) T2 (by omega) (fun q hq=>by have:=K.ge q hq; omega)
  by_cases hb0:b=0
  · have ha0:¬ a=0:=fun e=>hab ⟨e,hb0⟩
    subst hb0
    rw [f60_eq]; unfold c60; rw [callFn_eq (by rfl)]
    simp (disch:=first|assumption|omega|(simp (disch:=first|assumption|omega) only [sB,reduceAdd,reduceLT,reduceLeDiff,reduceEqDiff,reduceMul,↓reduceIte,gd_tm,gd_zt,hG];done)|fail) only [sA,↓reduceIte,reduceLT,reduceEqDiff,reduceAdd,reduceLeDiff,ha0,pNone,pureC_new,e2,w1,w2,keys_new,keys_gd,gd_tm,gd_zt,hG]
    exact fin _ (by omega)
  · rw [f60_eq]; unfold c60; rw [callFn_eq (by rfl)]
    simp (disch:=first|assumption|omega|(simp (disch:=first|assumption|omega) only [sB,reduceAdd,reduceLT,reduceLeDiff,reduceEqDiff,reduceMul,↓reduceIte,gd_tm,gd_zt,hG];done)|fail) only [sA,↓reduceIte,reduceLT,reduceEqDiff,reduceAdd,reduceLeDiff,hb0,pNone,pureC_new,e2,w1,w2,keys_new,keys_gd,gd_tm,gd_zt,hG]
    exact fin _ (by omega)
theorem snap_tq {m:Nat} {G:Hps} {X:Tm} {d:D} {rs:List Nat} (T:Tq G X d rs) (hh:highT X.abs≤2000) (hs:saneT X.abs=true):snapW (callX (cFk kL Try.prog) (LX (cFk kL Try.prog))) m G (.fn 22 [] []) [d] = .ok (.int .i64 (checkT X.abs)) (m+1) G:=by
  rw [snapW_fn]
  have e1:mapL (frz G 0 5000) [d]=[encT X]:=by rw [mapL_eq,List.map_cons,List.map_nil,Tq.frz X d rs T (fun _ _=>Nat.zero_le _) 5000 (by omega)]
  have c1:=pCheck X hs (m+1) [] (fun _ _=>good_nil)
  rw [e1,callX_fn]
  rw [encT_eq]
  show snapC m G _ _ (callFn _ _ _ ([] ++ ([(D.agg [.int .i64 (X).form,.int .i64 (X).n,.bool (X).hid,.str (X).name,slD 2 encL (X).levels,slD 6 encT (X).kids])]++[])) _)=_
  simp only [List.nil_append,List.append_nil]
  rw [c1,← encT_eq]
  have ho:=elemT.ok X
  have h2:clo 20 (encT X)=true:=by
    unfold okE at ho
    revert ho
    cases okF 6 (encT X) <;> simp
  exact snapC_ok rfl (by rw [List.all_cons,List.all_nil,h2]; rfl) rfl
theorem snap_T {m:Nat} {G:Hps} {X:Tm} (hs:saneT X.abs=true):snapW (callX (cFk kL Try.prog) (LX (cFk kL Try.prog))) m G (.fn 22 [] []) [(D.agg [.int .i64 (X).form,.int .i64 (X).n,.bool (X).hid,.str (X).name,slD 2 encL (X).levels,slD 6 encT (X).kids])] = .ok (.int .i64 (checkT X.abs)) (m+1) G:=by
  rw [snapW_fn,← encT_eq]
  have e1:mapL (frz G 0 5000) [encT X]=[encT X]:=by rw [mapL_eq,List.map_cons,List.map_nil,(plain2 4998 (elemT.flat X)).frz]
  have c1:=pCheck X hs (m+1) [] (fun _ _=>good_nil)
  rw [e1,callX_fn]
  rw [encT_eq]
  show snapC m G _ _ (callFn _ _ _ ([] ++ ([(D.agg [.int .i64 (X).form,.int .i64 (X).n,.bool (X).hid,.str (X).name,slD 2 encL (X).levels,slD 6 encT (X).kids])]++[])) _)=_
  simp only [List.nil_append,List.append_nil]
  rw [c1,← encT_eq]
  have ho:=elemT.ok X
  have h2:clo 20 (encT X)=true:=by
    unfold okE at ho
    revert ho
    cases okF 6 (encT X) <;> simp
  exact snapC_ok rfl (by rw [List.all_cons,List.all_nil,h2]; rfl) rfl
theorem rn_low {n0 f:Nat} {l rs:List Nat} {d:D} (H:rowD rs d) (hn:∀ r,r∈rs→r < n0):rn n0 l (f+1) d=d:=by
  rcases H with rfl | ⟨k,r,len,hr,rfl⟩
  · rfl
  · show Bool.rec (motive:=fun _=>D) (.ms k (n0+idxN l r) 0 len false) (.ms k r 0 len false) (Nat.blt r n0)=_
    rw [blt_iff,decide_eq_true (hn r hr)]
theorem fromN_low {n0:Nat}:∀ {l:List Nat},(∀ r,r∈l→r < n0)→fromN n0 l=[]
  | [],_=>rfl
  | a::t,hn=>by
    show Bool.rec (motive:=fun _=>List Nat) (Bool.rec (motive:=fun _=>List Nat) (a::fromN n0 t) (fromN n0 t) (memN a (fromN n0 t))) (fromN n0 t) (Nat.blt a n0)=_
    rw [blt_iff,decide_eq_true (hn a (by simp)),fromN_low (fun r hr=>hn r (by simp [hr]))]
theorem keep_low {n0 n:Nat} {h h0:Hps} {X:Tm} {d:D} {rs:List Nat} {e:Int} (H:Hp n0 h0 n h) (T:Tq h X d rs) (hh:highT X.abs≤2000) (hn:∀ r,r∈rs→r < n0):keepD n0 n h (.tup [d,.int .i64 e]) = .ok (.tup [d,.int .i64 e]) n0 h0:=by
  have hrf:rf h 5000 (.tup [d,.int .i64 e])=rs:=by
    show appN (rf h 4999 d) (appN [] [])=rs
    rw [Tq.rf X d rs T 4999 (by omega),appN_eq]
    exact List.append_nil _
  have hin:inD (fun r=>Bool.or (Nat.blt r n0) (memN r [])) 20 (.tup [d,.int .i64 e])=true:=by
    rw [in_tup,List.all_cons,List.all_cons,List.all_nil,T.inD (fun r hr=>by show Bool.or (Nat.blt r n0) _=true; rw [blt_iff,decide_eq_true (hn r hr)]; rfl) 17]
    rfl
  have hrn:rn n0 [] 20 (.tup [d,.int .i64 e]) = .tup [d,.int .i64 e]:=by
    obtain ⟨lv,kd,rfl,r1,r2⟩:=T.form
    show D.tup [.agg [.int .i64 X.form,.int .i64 X.n,.bool X.hid,.str X.name,rn n0 [] 18 lv,rn n0 [] 18 kd],.int .i64 e]=_
    rw [rn_low r1 hn,rn_low r2 hn]
  have hj:hasJ 20 (.tup [d,.int .i64 e])=false:=by
    show Bool.not (allL (fun d=>Bool.not (hasJ 19 d)) [d,.int .i64 e])=false
    rw [allL_eq,List.all_cons,List.all_cons,List.all_nil,T.noJ 17]
    rfl
  unfold keepD
  rw [hrf,fromN_low hn]
  unfold keepL
  rw [hrn,hin,hj,H.leak,H.drop]
  rfl
set_option maxHeartbeats 4000000 in
theorem toldK (n:Nat) (h:Hps) (hg:Gd n h) {X:Tm} {d:D} {rs:List Nat} (T:Tq h X d rs) (hn:∀ r,r∈rs→r < n) (hs:saneT X.abs=true) (hh:highT X.abs≤2000):callFn (LX (cFk kL Try.prog)) n h [d,.int .i64 0] (cFk kL Try.prog 58) = .ok (if checkT X.abs≠0 then .tup [(D.agg [.int .i64 0,.int .i64 0,.bool false,.str [],.nils,.nils]),.int .i64 2] else .tup [d,.int .i64 0]) n h:=by
  have hgn:=hg n (Nat.le_refl _)
  obtain ⟨lv,kd,rfl,r1,r2⟩:=T.form
  have hl:∀ k,n≤k→lowO k (.row 6 [.agg [.int .i64 X.form,.int .i64 X.n,.bool X.hid,.str X.name,lv,kd]]):=fun k hk=>lowO_one (T.low (fun q hq=>by have:=hn q hq; omega))
  have H1 := (Hp.start hg).cons (r:=n) (m:=n+1) (o := .row 6 [.agg [.int .i64 X.form,.int .i64 X.n,.bool X.hid,.str X.name,lv,kd]]) (Nat.le_refl _) (by omega) (fun k hk=>hl k (by omega))
  have H2:∀ Y,(∀ k,n+2≤k→lowO k Y)→Hp n h (n+2) ((n+1,Y) :: (n,.row 6 [.agg [.int .i64 X.form,.int .i64 X.n,.bool X.hid,.str X.name,lv,kd]])::h):=fun Y hY=>H1.cons (by omega) (by omega) hY
  have T2:∀ Y,Tq ((n+1,Y) :: (n,.row 6 [.agg [.int .i64 X.form,.int .i64 X.n,.bool X.hid,.str X.name,lv,kd]])::h) X _ rs:=fun Y=>Tq.congr _ _ _ T (fun q hq=>by have:=hn q hq; rw [getO_tl (by omega),getO_tl (by omega)])
  have es:=fun m=>snap_tq (m:=m) (T2 (Ob.row 6 [.agg [.int .i64 0,.int .i64 0,.bool false,.str [],.nils,.nils]])) hh hs
  generalize checkT X.abs=C at es ⊢
  by_cases y:C=0
  · subst y
    rw [if_neg (by simp)]
    rw [f58_eq]; unfold c58; rw [callFn_eqK (by rfl)]
    simp (disch:=first|assumption|omega|(simp (disch:=first|assumption|omega) only [sB,reduceAdd,reduceLT,reduceLeDiff,reduceEqDiff,reduceMul,↓reduceIte];done)|fail) only [sA,↓reduceIte,reduceLT,reduceEqDiff,reduceAdd,reduceLeDiff,es]
    exact keep_low ((H2 _ (fun k hk=>hl k (by omega))).mono (by omega)) (T2 _) hh hn
  · rw [if_pos y]
    rw [f58_eq]; unfold c58; rw [callFn_eqK (by rfl)]
    simp (disch:=first|assumption|omega|(simp (disch:=first|assumption|omega) only [sB,reduceAdd,reduceLT,reduceLeDiff,reduceEqDiff,reduceMul,↓reduceIte];done)|fail) only [sA,↓reduceIte,reduceLT,reduceEqDiff,reduceAdd,reduceLeDiff,es,y]
    exact keep_low (X:=zeroT) (rs:=[]) ((H2 _ (fun k hk=>lowO_one (low_flat rfl))).mono (by omega)) (Tq_leaf Lq_nil) (by rw [show highT zeroT.abs=1 from high_leaf]; omega) (fun r hr=>by cases hr)
end Go.Proofs.Ytdijijblccmfbaa
set_option linter.unusedSimpArgs false
set_option linter.unusedVariables false
namespace Go.Proofs.Ytdijijblccmfbaa
open Go
open Nat (reduceAdd reduceLT reduceLeDiff reduceEqDiff reduceMul)

def rangeB (a b:Int):Prop:=0≤a∧0≤b∧a≤1048576∧b≤1048576
def LiftX (t:Trm) (a b:Int) (t':Trm) (e:Int):Prop := (checkT t≠0∧e=checkT t∧t'=zeroT.abs) ∨ (checkT t=0∧¬ rangeB a b∧e=1∧t'=zeroT.abs) ∨ (checkT t=0∧rangeB a b∧checkT (rlift b (cleanT t) a)≠0∧e=2∧t'=zeroT.abs) ∨ (checkT t=0∧rangeB a b∧checkT (rlift b (cleanT t) a)=0∧e=0∧t'=rlift b (cleanT t) a)
theorem LiftX.same {t t1 t2:Trm} {a b e1 e2:Int} (H:LiftX t a b t1 e1) (K:LiftX t a b t2 e2):t1=t2∧e1=e2:=by
  rcases H with ⟨h1,h2,h3⟩ | ⟨h1,h2,h3,h4⟩ | ⟨h1,h2,h3,h4,h5⟩ | ⟨h1,h2,h3,h4,h5⟩ <;> rcases K with ⟨k1,k2,k3⟩ | ⟨k1,k2,k3,k4⟩ | ⟨k1,k2,k3,k4,k5⟩ | ⟨k1,k2,k3,k4,k5⟩ <;> first | exact ⟨by simp_all,by simp_all⟩ | exact absurd k1 h1 | exact absurd h1 k1 | exact absurd k2 h2 | exact absurd h2 k2 | exact absurd k3 h3 | exact absurd h3 k3
theorem Kq_nil {n:Nat} {h:Hps} (hg:Gd n h):Kq n h n h []:=⟨List.nodup_nil,fun r hr => (by cases hr),Hp.start hg,fun p hp hq=>by have := (hg n (Nat.le_refl _) p hp).1; omega⟩
theorem Tq_zero {h:Hps}:Tq h zeroT (D.agg [.int .i64 0,.int .i64 0,.bool false,.str [],.nils,.nils]) []:=Tq_leaf Lq_nil
theorem high_zero:highT zeroT.abs=1:=high_leaf
set_option maxHeartbeats 4000000 in
theorem tLiftK (t:Tm) (hw:fewT t.abs=true) (hs:saneT t.abs=true) (a b:Int):∃ t' e,LiftX t.abs a b t'.abs e∧saneT t'.abs=true∧highT t'.abs≤500∧∀ n h,Gd n h→∃ d n2 h' rs,callFn (LX (cFk kL Try.prog)) n h [(D.agg [.int .i64 (t).form,.int .i64 (t).n,.bool (t).hid,.str (t).name,slD 2 encL (t).levels,slD 6 encT (t).kids]),.int .i64 a,.int .i64 b] (cFk kL Try.prog 15) = .ok (.tup [d,.int .i64 e]) n2 h'∧Tq h' t' d rs∧Kq n h n2 h' rs:=by
  have es:=fun m G=>snap_T (m:=m) (G:=G) hs
  have HZ:∀ n h,Gd n h→∀ m,n+2≤m→Hp n h m ((n+1,(Ob.row 6 [.agg [.int .i64 0,.int .i64 0,.bool false,.str [],.nils,.nils]])) :: (n,(Ob.row 6 [.agg [.int .i64 (t).form,.int .i64 (t).n,.bool (t).hid,.str (t).name,slD 2 encL (t).levels,slD 6 encT (t).kids]]))::h):=fun n h hg m hm => (((Hp.start hg).box (r:=n) (m:=n+1) (Nat.le_refl _) (by omega) (flatTA t)).box (r:=n+1) (m:=n+2) (k:=6) (d := (D.agg [.int .i64 0,.int .i64 0,.bool false,.str [],.nils,.nils])) (by omega) (by omega) rfl).mono hm
  by_cases hc:checkT t.abs=0
  case neg =>
    refine ⟨zeroT,checkT t.abs,.inl ⟨hc,rfl,rfl⟩,sane_zero,by rw [high_zero]; omega,fun n h hg=>⟨(D.agg [.int .i64 0,.int .i64 0,.bool false,.str [],.nils,.nils]),n,h,[],?_,Tq_zero,Kq_nil hg⟩⟩
    rw [f15_eq]; unfold c15; rw [callFn_eqK (by rfl)]
    simp (disch:=first|assumption|omega|(simp (disch:=first|assumption|omega) only [sB,reduceAdd,reduceLT,reduceLeDiff,reduceEqDiff,reduceMul,↓reduceIte];done)|fail) only [sA,↓reduceIte,reduceLT,reduceEqDiff,reduceAdd,reduceLeDiff,es,hc]
    exact keep_low (X:=zeroT) (rs:=[]) (HZ n h hg _ (by omega)) Tq_zero (by rw [high_zero]; omega) (fun r hr=>by cases hr)
  by_cases hab:rangeB a b
  case neg =>
    refine ⟨zeroT,1,.inr (.inl ⟨hc,hab,rfl,rfl⟩),sane_zero,by rw [high_zero]; omega,fun n h hg=>⟨(D.agg [.int .i64 0,.int .i64 0,.bool false,.str [],.nils,.nils]),n,h,[],?_,Tq_zero,Kq_nil hg⟩⟩
    have fin:=fun m hm=>keep_low (X:=zeroT) (rs:=[]) (e:=1) (HZ n h hg m hm) Tq_zero (by rw [high_zero]; omega) (fun r hr=>by cases hr)
    rw [f15_eq]; unfold c15; rw [callFn_eqK (by rfl)]
    unfold rangeB at hab
    by_cases h1:a < 0
    · simp (disch:=first|assumption|omega|(simp (disch:=first|assumption|omega) only [sB,reduceAdd,reduceLT,reduceLeDiff,reduceEqDiff,reduceMul,↓reduceIte];done)|fail) only [sA,↓reduceIte,reduceLT,reduceEqDiff,reduceAdd,reduceLeDiff,es,hc,h1]
      exact fin _ (by omega)
    by_cases h2:b < 0
    · simp (disch:=first|assumption|omega|(simp (disch:=first|assumption|omega) only [sB,reduceAdd,reduceLT,reduceLeDiff,reduceEqDiff,reduceMul,↓reduceIte];done)|fail) only [sA,↓reduceIte,reduceLT,reduceEqDiff,reduceAdd,reduceLeDiff,es,hc,h1,h2]
      exact fin _ (by omega)
    by_cases h3 : (1048576:Int) < a
    · simp (disch:=first|assumption|omega|(simp (disch:=first|assumption|omega) only [sB,reduceAdd,reduceLT,reduceLeDiff,reduceEqDiff,reduceMul,↓reduceIte];done)|fail) only [sA,↓reduceIte,reduceLT,reduceEqDiff,reduceAdd,reduceLeDiff,es,hc,h1,h2,h3]
      exact fin _ (by omega)
    have h4 : (1048576:Int) < b:=by omega
    simp (disch:=first|assumption|omega|(simp (disch:=first|assumption|omega) only [sB,reduceAdd,reduceLT,reduceLeDiff,reduceEqDiff,reduceMul,↓reduceIte];done)|fail) only [sA,↓reduceIte,reduceLT,reduceEqDiff,reduceAdd,reduceLeDiff,es,hc,h1,h2,h3,h4]
    exact fin _ (by omega)
  obtain ⟨a1,b1,a2,b2⟩:=hab
  have hab:rangeB a b:=⟨a1,b1,a2,b2⟩
  obtain ⟨g1,g2,g3⟩:=good_parts hc
  have hl:=formed_leaf _ g1
  have hsl:=slim_of _ g1 hw
  have c2:∀ m h,Gd m h→callFn (LX (cFk kL Try.prog)) m h [(D.agg [.int .i64 (t).form,.int .i64 (t).n,.bool (t).hid,.str (t).name,slD 2 encL (t).levels,slD 6 encT (t).kids]),.int .i64 a,.int .i64 b] (cFk kL Try.prog 60) = .ok (encT (if a=0∧b=0 then t else (runM (gL a b) t 0 1099511627776).1)) m h:=fun m h hg=>pLiftK m h hg t a b (by omega) (by omega) hsl (by omega) (by omega)
  have f1:formedT (cleanT t.abs)=true:=by rw [clean_formed]; exact g1
  obtain ⟨X,c2,xs,xz,xh,xl,xc⟩:∃ X:Tm,(∀ m h,Gd m h→callFn (LX (cFk kL Try.prog)) m h [(D.agg [.int .i64 (t).form,.int .i64 (t).n,.bool (t).hid,.str (t).name,slD 2 encL (t).levels,slD 6 encT (t).kids]),.int .i64 a,.int .i64 b] (cFk kL Try.prog 60) = .ok (encT X) m h)∧slimT X.abs=true∧sizeT X.abs=sizeT t.abs∧highT X.abs=highT t.abs∧leafT X.abs=true∧cleanT X.abs=rlift b (cleanT t.abs) a:=by
    refine ⟨_,c2,?_⟩
    by_cases hz:a=0∧b=0
    · rw [if_pos hz]
      obtain ⟨rfl,rfl⟩:=hz
      exact ⟨hsl,rfl,rfl,hl,by rw [rlift_zero]⟩
    · rw [if_neg hz]
      have x0:0 ≤ (runM (gL a b) t 0 1099511627776).2:=by have := (runM_low (steadyL a b) t 0 1099511627776).1; omega
      have xv:=lift_val a b t hl 0 1099511627776 x0
      rw [Int.add_zero] at xv
      refine ⟨by rw [xv]; exact slim_lift (by omega) _ f1 (slim_of _ f1 (few_clean _ hw)) _,by rw [xv,size_lift,clean_size],by rw [xv,high_lift,clean_high],by rw [xv]; exact rlift_leaf _ (formed_leaf _ f1) _,by rw [xv,clean_lift,clean_clean]⟩
  have y0:0 ≤ (runM gC X 0 1099511627776).2:=by have := (runM_low steadyC X 0 1099511627776).1; omega
  have yv:=copy_val X xl 0 1099511627776 y0
  have ys:=sane_runC X xs 0 1099511627776
  rw [xc] at yv
  have c3:=fun n h (hg:Gd n h)=>pCopyK n h hg X xs (by omega) (by omega)
  generalize (runM gC X 0 1099511627776).1=Y at yv ys c3
  have yh:highT Y.abs≤500:=by rw [yv,high_lift,clean_high]; omega
  rw [encT_eq] at c2
  have key:∀ n h,Gd n h→∃ d N g rs,Tq g Y d rs∧Kq (n+29) ((n+1,(Ob.row 6 [.agg [.int .i64 0,.int .i64 0,.bool false,.str [],.nils,.nils]])) :: (n,(Ob.row 6 [.agg [.int .i64 (t).form,.int .i64 (t).n,.bool (t).hid,.str (t).name,slD 2 encL (t).levels,slD 6 encT (t).kids]]))::h) N g rs∧callFn (LX (cFk kL Try.prog)) (n+29) ((n+1,(Ob.row 6 [.agg [.int .i64 0,.int .i64 0,.bool false,.str [],.nils,.nils]])) :: (n,(Ob.row 6 [.agg [.int .i64 (t).form,.int .i64 (t).n,.bool (t).hid,.str (t).name,slD 2 encL (t).levels,slD 6 encT (t).kids]]))::h) [(D.agg [.int .i64 (X).form,.int .i64 (X).n,.bool (X).hid,.str (X).name,slD 2 encL (X).levels,slD 6 encT (X).kids])] (cFk kL Try.prog 59) = .ok d N g:=fun n h hg=>by
    obtain ⟨d,N,g,rs,e,T,K⟩:=c3 (n+29) _ (fun k hk => (HZ n h hg (n+2) (Nat.le_refl _)).good k (by omega))
    exact ⟨d,N,g,rs,T,K,e⟩
  by_cases hy:checkT Y.abs=0
  · refine ⟨Y,0,.inr (.inr (.inr ⟨hc,hab,by rw [← yv]; exact hy,rfl,yv⟩)),ys,yh,fun n h hg=>?_⟩
    have hG:∀ m,n≤m→Gd m h:=fun m hm=>hg.mono hm
    obtain ⟨d,N,g,rs,T,K,e3⟩:=key n h hg
    have hle:=K.hp.le
    have e4:=toldK (N+2) g (fun k hk=>K.hp.good k (by omega)) T (fun q hq=>by have:=K.ge q hq; omega) ys (by omega)
    rw [if_neg (fun e=>e hy)] at e4
    have w1:getO g (n+1) = (Ob.row 6 [.agg [.int .i64 0,.int .i64 0,.bool false,.str [],.nils,.nils]]):=by rw [K.hp.get (by omega),getO_hd]
    have w2:∀ X,getO (setO g (n+1) X) (n+1)=X:=fun X=>getO_setO_same (by rw [w1]; simp)
    have HN := (HZ n h hg (n+29) (by omega)).comp K.hp
    obtain ⟨lv,kd,rfl,r1,r2⟩:=T.form
    have hlow:∀ k,N≤k→lowO k (.row 6 [.agg [.int .i64 Y.form,.int .i64 Y.n,.bool Y.hid,.str Y.name,lv,kd]]):=fun k hk=>lowO_one (T.low (fun q hq=>by have:=K.ge q hq; omega))
    have T2:Tq (setO g (n+1) (.row 6 [.agg [.int .i64 Y.form,.int .i64 Y.n,.bool Y.hid,.str Y.name,lv,kd]])) Y _ rs:=Tq.congr _ _ _ T (fun q hq=>by have:=K.ge q hq; rw [getO_ne (by omega)])
    obtain ⟨d',h',rs',e,T',K'⟩:=keep_pair (e:=0) ((HN.set (r:=n+1) (by omega) hlow).mono (show N≤N+7 by omega)) hg T2 (by omega) K.nd (fun q hq=>by have:=K.ge q hq; omega)
    refine ⟨d',_,h',rs',?_,T',K'⟩
    rw [f15_eq]; unfold c15; rw [callFn_eqK (by rfl)]
    simp (disch:=first|assumption|omega|(simp (disch:=first|assumption|omega) only [sB,reduceAdd,reduceLT,reduceLeDiff,reduceEqDiff,reduceMul,↓reduceIte,hG,gd_tm,gd_zt];done)|fail) only [sA,↓reduceIte,reduceLT,reduceEqDiff,reduceAdd,reduceLeDiff,es,hc,c2,e3,e4,w1,w2,e,hG,gd_tm,gd_zt]
  · refine ⟨zeroT,2,.inr (.inr (.inl ⟨hc,hab,by rw [← yv]; exact hy,rfl,rfl⟩)),sane_zero,by rw [high_zero]; omega,fun n h hg=>⟨(D.agg [.int .i64 0,.int .i64 0,.bool false,.str [],.nils,.nils]),n,h,[],?_,Tq_zero,Kq_nil hg⟩⟩
    have hG:∀ m,n≤m→Gd m h:=fun m hm=>hg.mono hm
    obtain ⟨d,N,g,rs,T,K,e3⟩:=key n h hg
    have hle:=K.hp.le
    have e4:=toldK (N+2) g (fun k hk=>K.hp.good k (by omega)) T (fun q hq=>by have:=K.ge q hq; omega) ys (by omega)
    rw [if_pos hy] at e4
    have w1:getO g (n+1) = (Ob.row 6 [.agg [.int .i64 0,.int .i64 0,.bool false,.str [],.nils,.nils]]):=by rw [K.hp.get (by omega),getO_hd]
    have w2:∀ X,getO (setO g (n+1) X) (n+1)=X:=fun X=>getO_setO_same (by rw [w1]; simp)
    have HN := (HZ n h hg (n+29) (by omega)).comp K.hp
    have e:=keep_low (X:=zeroT) (rs:=[]) (e:=2) ((HN.set (r:=n+1) (by omega) (fun k hk=>lowO_one (k:=6) (low_flat (d := (D.agg [.int .i64 0,.int .i64 0,.bool false,.str [],.nils,.nils])) rfl))).mono (show N≤N+7 by omega)) Tq_zero (by rw [high_zero]; omega) (fun r hr=>by cases hr)
    rw [f15_eq]; unfold c15; rw [callFn_eqK (by rfl)]
    simp (disch:=first|assumption|omega|(simp (disch:=first|assumption|omega) only [sB,reduceAdd,reduceLT,reduceLeDiff,reduceEqDiff,reduceMul,↓reduceIte,hG,gd_tm,gd_zt];done)|fail) only [sA,↓reduceIte,reduceLT,reduceEqDiff,reduceAdd,reduceLeDiff,es,hc,c2,e3,e4,w1,w2,e,hG,gd_tm,gd_zt]
end Go.Proofs.Ytdijijblccmfbaa
