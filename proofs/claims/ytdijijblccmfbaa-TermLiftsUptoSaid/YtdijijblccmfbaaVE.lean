/- The program's map over a term, kept as it lies: stepped through. No condition but sizes. -/
import Derived.Test.YtdijijblccmfbaaVD
set_option linter.unusedSimpArgs false
set_option linter.unusedVariables false
namespace Go.Proofs.Ytdijijblccmfbaa
open Go
open Nat (reduceAdd reduceLT reduceLeDiff reduceEqDiff reduceMul)

theorem Tqs.leng {h:Hps}:∀ {ks:List Tm} {ds:List D} {rs:List Nat},Tqs h ks ds rs → (∀ k,k∈ks→∀ d rs,Tq h k d rs→rs.length≤2*sizeT k.abs)→rs.length≤2*sizeTs (ks.map Tm.abs)
  | [],ds,rs,H,_=>by rw [(Tqs_nil.1 H).2]; exact Nat.zero_le _
  | k::t,ds,rs,H,hk=>by
    obtain ⟨d,dt,r1,r2,rfl,rfl,H1,Ht⟩:=Tqs_cons.1 H
    have a1:=hk k (by simp) d r1 H1
    have a2:=Ht.leng (fun k hk'=>hk k (by simp [hk']))
    rw [List.map_cons,sizeTs_cons,List.length_append]
    omega
theorem Tq.leng {h:Hps}:∀ t:Tm,∀ d rs,Tq h t d rs→rs.length≤2*sizeT t.abs:=by
  refine Tm.ind ?_
  intro t ih d rs H
  obtain ⟨_,lv,kd,rl,rk,rfl,rfl,HL,HK⟩:=Tq_eq.1 H
  have a1:=HL.len
  rw [size_abs,List.length_append]
  rcases HK with ⟨_,_,rfl⟩ | ⟨r,ds,rt,hk,_,rfl,hg,HT⟩
  · simp; omega
  · have a2:=HT.leng ih
    rw [List.length_cons]
    omega
theorem run_size {g:Does} (hG:∀ t d L x,g t d L=some x→∃ v,x = (varT v,L)):∀ t:Tm,∀ d L,sizeT (runM g t d L).1.abs≤sizeT t.abs:=by
  refine Tm.ind ?_
  intro t ih d L
  have hp:=sizeT_pos t.abs
  have hleaf:∀ {f n:Int} {hd:Bool} {nm:List Nat} {l:Sl SLev},sizeT (Tm.mk f n hd nm l true false [] []).abs=1:=fun {f n hd nm l}=>by
    rw [size_abs]
    show 1+sizeTs (List.map Tm.abs [])=1
    rw [List.map_nil,sizeTs_nil]
  rw [runM_eq]
  split
  · show sizeT zeroT.abs≤_
    rw [show sizeT zeroT.abs=1 from hleaf]; exact hp
  · cases e:g t d (L - 1) with
    | some x =>
      obtain ⟨v,rfl⟩:=hG _ _ _ _ e
      show sizeT (varT v).abs≤_
      rw [show sizeT (varT v).abs=1 from hleaf]; exact hp
    | none =>
      show sizeT (bareT t (runMs g t.form 0 t.kids.el d (L - 1)).1).abs≤_
      rw [size_abs,size_abs t]
      show 1+sizeTs ((runMs g t.form 0 t.kids.el d (L - 1)).1.map Tm.abs)≤_
      have key:∀ ks:List Tm,(∀ k,k∈ks→k∈t.kids.el)→∀ (i:Nat) (L:Int),sizeTs ((runMs g t.form i ks d L).1.map Tm.abs)≤sizeTs (ks.map Tm.abs):=by
        intro ks
        induction ks with
        | nil=>intro _ i L; rw [runMs_nil]; exact Nat.le_refl _
        | cons k ks ihk =>
          intro hk i L
          rw [runMs_cons,List.map_cons,List.map_cons,sizeTs_cons,sizeTs_cons]
          have a1:=ih k (hk k (by simp)) (undr t.form i d) L
          have a2:=ihk (fun x hx=>hk x (by simp [hx])) (i+1) (runM g k (undr t.form i d) L).2
          show (sizeT (runM g k (undr t.form i d) L).1.abs) + (sizeTs ((runMs g t.form (i+1) ks d (runM g k (undr t.form i d) L).2).1.map Tm.abs))≤_
          omega
      have:=key t.kids.el (fun _ h=>h) 0 (L - 1)
      omega
theorem Tqs.low {h:Hps} {m:Nat} {ks:List Tm} {ds:List D} {rs:List Nat} (H:Tqs h ks ds rs) (hr:∀ r,r∈rs→r < m):∀ d,d∈ds→Ytdijijblccmfbaa.low m d:=fun d hd=>by
  obtain ⟨T,_,r1,a,b⟩:=H.mem.1 d hd
  exact a.low (fun r h1=>hr r (b r h1))
set_option maxHeartbeats 8000000 in
theorem mapRunK {c:D} {r:Nat} {g:Does} (hS:Steady g 0) (hG:∀ t d L x,g t d L=some x→∃ v,x = (varT v,L)) (hc:rd 20 c=[]) (hci:inD (fun x=>memN x [r]) 20 c=true) (hsn:snapB c=false) (hD:DoesK c g):∀ t:Tm,slimT t.abs=true→sizeT t.abs≤100000→highT t.abs≤2000→∀ d L:Int,0≤d→d+highT t.abs≤1000000→sizeT t.abs≤L→L≤10000000000000→∀ (n:Nat) (h:Hps),Gd n h→r < n→getO h r = .row 1 [.int .i64 L] →
    ∃ dd n2 h' h1 rs,callFn (LX (cFk kL Try.prog)) n h [(D.agg [.int .i64 (t).form,.int .i64 (t).n,.bool (t).hid,.str (t).name,slD 2 encL (t).levels,slD 6 encT (t).kids]),.int .i64 d,.ptr r 0 0,c] (cFk kL Try.prog 91) = .ok dd n2 h'∧Tq h' (runM g t d L).1 dd rs∧Kq n h1 n2 h' rs∧Cnt r (runM g t d L).2 h h1∧n2≤n+2*sizeT t.abs:=by
  refine Tm.ind ?_
  intro t ih hsl hsz hht d L hd0 hd hL1 hL2 n h hg hr hb
  obtain ⟨hk,hv,hth,hks⟩:=slim_tm hsl
  have hgn:=hg n (Nat.le_refl _)
  have hhp:=highT_pos t.abs
  have hsp:=sizeT_pos t.abs
  have U1:Cnt r (L - 1) h (setO h r (.row 1 [.int .i64 (L - 1)])):=Cnt.set hb
  generalize hh1:setO h r (.row 1 [.int .i64 (L - 1)])=h1 at U1
  have g1:=U1.gd hr hg
  have b1:=U1.1
  have HX:∀ hx X,Gd n hx→flat X=true→Hp n hx (n+2) ((n+1,.row 6 [X]) :: (n,(Ob.row 6 [.agg [.int .i64 (t).form,.int .i64 (t).n,.bool (t).hid,.str (t).name,slD 2 encL (t).levels,slD 6 encT (t).kids]]))::hx):=fun hx X gx fx => ((Hp.start gx).box (r:=n) (m:=n+1) (Nat.le_refl _) (by omega) (flatTA t)).box (r:=n+1) (m:=n+2) (by omega) (by omega) fx
  have HP:∀ hx,Gd n hx→Hp n hx (n+2) ((n+1,(Ob.row 6 [.agg [.int .i64 0,.int .i64 0,.bool false,.str [],.nils,.nils]])) :: (n,(Ob.row 6 [.agg [.int .i64 (t).form,.int .i64 (t).n,.bool (t).hid,.str (t).name,slD 2 encL (t).levels,slD 6 encT (t).kids]]))::hx):=fun hx gx=>HX hx _ gx rfl
  have hcc:∀ (call:CallF) (n:Nat) (h:Hps) (x:D) (args:List D),callC call n h c (x::args)=call (n+1) h c (x::args):=fun _ _ _ _ _=>callC_cons hsn
  rw [runM_eq]
  have h0:¬ L - 1 < 0:=by omega
  rw [if_neg h0]
  have D0:=hD t hsl d (L - 1) hd0 (by omega) (n+16) ((n+1,(Ob.row 6 [.agg [.int .i64 0,.int .i64 0,.bool false,.str [],.nils,.nils]])) :: (n,(Ob.row 6 [.agg [.int .i64 (t).form,.int .i64 (t).n,.bool (t).hid,.str (t).name,slD 2 encL (t).levels,slD 6 encT (t).kids]]))::h1) (fun k hk => (HP h1 g1).good k (by omega))
  cases hgt:g t d (L - 1) with
  | some x =>
    obtain ⟨⟨v,rfl⟩,e2⟩:=D0.2 x hgt
    rw [show encT (varT v,L - 1).1=_ from enc_var v] at e2
    have H26:Hp n h1 (n+26) ((n+20,.row 6 [.agg [.int .i64 1,.int .i64 v,.bool false,.str [],.nils,.nils]]) :: (n+1,.row 6 [.agg [.int .i64 1,.int .i64 v,.bool false,.str [],.nils,.nils]]) :: (n,(Ob.row 6 [.agg [.int .i64 (t).form,.int .i64 (t).n,.bool (t).hid,.str (t).name,slD 2 encL (t).levels,slD 6 encT (t).kids]]))::h1) := (HX h1 _ g1 rfl).box (r:=n+20) (m:=n+26) (by omega) (by omega) rfl
    rw [f91_eq]; unfold c91; rw [callFn_eqK (by rfl)]
    simp (disch:=first|assumption|omega|(simp (disch:=first|assumption|omega) only [sB,reduceAdd,reduceLT,reduceLeDiff,reduceEqDiff,reduceMul,↓reduceIte];done)|fail) only [sA,↓reduceIte,reduceLT,reduceEqDiff,reduceAdd,reduceLeDiff,hb,hh1,b1,h0,hcc,e2]
    obtain ⟨d',n2,h',rs,e,T',K,hn⟩:=keep_leaf (f:=1) (a:=v) (hd:=false) (nm:=[]) g1 H26 Lq_nil (fun r hr=>by cases hr)
    exact ⟨d',n2,h',h1,rs,e,T',K,U1,by omega⟩
  | none =>
    have e2:=D0.1 hgt
    obtain ⟨bn,bh,bs,bl,hbt⟩:∃ bn bh bs bl,∀ ks,bareT t ks = .mk t.form bn bh bs (Sl.app bl) true false ks []:=⟨_,_,_,if t.form=2∨t.form=10 then t.levels.el.map cloneL else [],fun ks=>by
      have : (if t.form=2∨t.form=10 then Sl.app (t.levels.el.map cloneL) else Sl.app [])=Sl.app (if t.form=2∨t.form=10 then t.levels.el.map cloneL else []):=by split <;> rfl
      unfold bareT
      rw [this]⟩
    have H24:Hp n h1 (n+26) ((n+20,(Ob.row 6 [.agg [.int .i64 0,.int .i64 0,.bool false,.str [],.nils,.nils]])) :: (n+1,(Ob.row 6 [.agg [.int .i64 0,.int .i64 0,.bool false,.str [],.nils,.nils]])) :: (n,(Ob.row 6 [.agg [.int .i64 (t).form,.int .i64 (t).n,.bool (t).hid,.str (t).name,slD 2 encL (t).levels,slD 6 encT (t).kids]]))::h1) := (HP h1 g1).box (r:=n+20) (m:=n+26) (by omega) (by omega) rfl
    obtain ⟨d1,N,g2,rl,e3,T1,K1,hN2⟩:=pBareK (n+26) _ (fun k hk=>H24.good k (by omega)) t hth
    rw [hbt,Tq] at T1
    obtain ⟨_,lv,kd,rl,rk,rfl,rfl,HL,HK⟩:=T1
    rcases HK with ⟨_,rfl,rfl⟩ | ⟨_,_,_,hk0,_⟩
    case inr=>exact absurd rfl hk0
    rw [List.append_nil] at K1
    have hN1:=K1.hp.le
    have hrl:∀ q,q∈rl→n+26≤q∧q < N:=K1.ge
    have hrlv:=HL.row
    have hone:=hrlv.one
    have HN:Hp n h1 N g2:=H24.comp K1.hp
    have z0:getO g2 n = (Ob.row 6 [.agg [.int .i64 (t).form,.int .i64 (t).n,.bool (t).hid,.str (t).name,slD 2 encL (t).levels,slD 6 encT (t).kids]]):=by rw [K1.hp.get (by omega),getO_tl (by omega),getO_tl (by omega),getO_hd]
    have z1:getO g2 (n+1) = (Ob.row 6 [.agg [.int .i64 0,.int .i64 0,.bool false,.str [],.nils,.nils]]):=by rw [K1.hp.get (by omega),getO_tl (by omega),getO_hd]
    have z2:∀ X,getO (setO g2 (n+1) X) (n+1)=X:=fun X=>getO_setO_same (by rw [z1]; simp)
    have hlow:∀ k,N≤k→lowO k (.row 6 [.agg [.int .i64 t.form,.int .i64 bn,.bool bh,.str bs,lv,.nils]]):=fun k hk=>lowO_one (low6 hrlv (.inl rfl:rowD [] .nils) (fun r h1=>by have:=hrl r h1; omega) (fun r h1=>by cases h1))
    by_cases hkn:t.kids.el=[]
    · rw [hkn,runMs_nil]
      have hlen:t.kids.el.length=0:=by rw [hkn]; rfl
      rw [f91_eq]; unfold c91; rw [callFn_eqK (by rfl)]
      simp (disch:=first|assumption|omega|(simp (disch:=first|assumption|omega) only [sB,reduceAdd,reduceLT,reduceLeDiff,reduceEqDiff,reduceMul,↓reduceIte];done)|fail) only [sA,↓reduceIte,reduceLT,reduceEqDiff,reduceAdd,reduceLeDiff,hb,hh1,b1,h0,hcc,e2,e3,z0,z1,z2,hlen,LX_loop]
      unfold l91_0
      simp (disch:=first|assumption|omega|(simp (disch:=first|assumption|omega) only [sB,reduceAdd,reduceLT,reduceLeDiff,reduceEqDiff,reduceMul,↓reduceIte];done)|fail) only [sA,↓reduceIte,reduceLT,reduceEqDiff,reduceAdd,reduceLeDiff,z0,z1,z2]
      obtain ⟨d',n2,h',rs,e,T',K,hn⟩:=keep_leaf (n:=n) (m:=N+14) (h:=h1) (G := (N+1,.row 6 [.agg [.int .i64 t.form,.int .i64 bn,.bool bh,.str bs,lv,.nils]])::setO g2 (n+1) (.row 6 [.agg [.int .i64 t.form,.int .i64 bn,.bool bh,.str bs,lv,.nils]])) (f:=t.form) (a:=bn) (hd:=bh) (nm:=bs) (l:=bl) (lv:=lv) (rl:=rl) g1 (((HN.set (r:=n+1) (by omega) hlow).cons (r:=N+1) (m:=N+14) (by omega) (by omega) (fun k hk=>hlow k (by omega)))) (HL.congr (fun q hq=>by have:=hrl q hq; rw [getO_tl (by omega),getO_ne (by omega)])) (fun q hq=>by have:=hrl q hq; omega)
      exact ⟨d',n2,h',h1,rs,e,by rw [hbt]; exact T',K,U1,by omega⟩
    · have hlen:0 < t.kids.el.length:=List.length_pos_iff.2 hkn
      have hlen2 : (0:Int) < (t.kids.el.length:Nat):=by omega
      have hX:rowD [N+10] (.ms 6 (N+10) 0 t.kids.el.length false) := .inr ⟨6,N+10,_,by simp,rfl⟩
      have hms:∀ k,N+11≤k→lowO k (.row 6 [.agg [.int .i64 t.form,.int .i64 bn,.bool bh,.str bs,lv,.ms 6 (N+10) 0 t.kids.el.length false]]):=fun k hk=>lowO_one (low6 hrlv hX (fun r h1=>by have:=hrl r h1; omega) (fun r h1=>by have:=List.mem_singleton.1 h1; omega))
      have lowZ:∀ k,low k (D.agg [.int .i64 0,.int .i64 0,.bool false,.str [],.nils,.nils]):=fun k=>low_flat rfl
      have HI:Hp n h1 (N+11) ((N+10,.row 6 (List.replicate t.kids.el.length (D.agg [.int .i64 0,.int .i64 0,.bool false,.str [],.nils,.nils]))) :: (N+1,.row 6 [.agg [.int .i64 t.form,.int .i64 bn,.bool bh,.str bs,lv,.ms 6 (N+10) 0 t.kids.el.length false]])::g2):=by
        have := ((HN.cons (r:=N+1) (m:=N+2) (o := .row 6 [.agg [.int .i64 t.form,.int .i64 bn,.bool bh,.str bs,lv,.nils]]) (by omega) (by omega) (fun k hk=>hlow k (by omega))).cons (r:=N+10) (m:=N+11) (o := .row 6 (List.replicate t.kids.el.length (D.agg [.int .i64 0,.int .i64 0,.bool false,.str [],.nils,.nils]))) (by omega) (by omega) (fun k _=>lowO_row (fun x hx=>by rw [(List.mem_replicate.1 hx).2]; exact lowZ k))).set (r:=N+1) (by omega) hms
        rw [setO_tl (by omega),setO_hd] at this
        exact this
      rw [f91_eq]; unfold c91; rw [callFn_eqK (by rfl)]
      simp (disch:=first|assumption|omega|(simp (disch:=first|assumption|omega) only [sB,reduceAdd,reduceLT,reduceLeDiff,reduceEqDiff,reduceMul,↓reduceIte];done)|fail) only [sA,↓reduceIte,reduceLT,reduceEqDiff,reduceAdd,reduceLeDiff,hb,hh1,b1,h0,hcc,e2,e3,z0,z1,z2,hlen2,mksl_eq,hone]
      generalize hR:LX (cFk kL Try.prog) (.loop l91_0) _ _ _=R
      obtain ⟨z,ez,nz,G,rfl,rfl,hnz,hbz,Hz,Vz,zn,y1,z27,ds,rt,z36,TT,hnd,hrt,LL,q8,q11⟩:=loop_up hR t.kids.el.length
        (fun i e n' G=>N+11≤n' ∧ (∃ hb',Hp n hb' n' G∧Cnt r (runMs g t.form 0 (t.kids.el.take i) d (L - 1)).2 h1 hb')∧getO G n = (Ob.row 6 [.agg [.int .i64 (t).form,.int .i64 (t).n,.bool (t).hid,.str (t).name,slD 2 encL (t).levels,slD 6 encT (t).kids]])∧getO G (n+1) = (Ob.row 6 [.agg [.int .i64 0,.int .i64 0,.bool false,.str [],.nils,.nils]])∧getO G (N+1) = .row 6 [.agg [.int .i64 t.form,.int .i64 bn,.bool bh,.str bs,lv,.ms 6 (N+10) 0 t.kids.el.length false]] ∧
          (∃ ds rt,getO G (N+10) = .row 6 (ds++List.replicate (t.kids.el.length - i) (D.agg [.int .i64 0,.int .i64 0,.bool false,.str [],.nils,.nils]))∧Tqs G (runMs g t.form 0 (t.kids.el.take i) d (L - 1)).1 ds rt∧rt.Nodup∧∀ q,q∈rt→N+11≤q∧q < n')∧Lq G bl lv rl ∧
          get (po 1) e = .int .i64 d∧get (po 2) e = .ptr r 0 0∧get (po 3) e=c∧get (po 4) e = .ptr n 0 0∧get (po 8) e = .ptr (n+1) 0 0∧get (po 11) e = .ptr (N+1) 0 0∧get (po 45) e=slD 6 encT t.kids∧get (po 46) e = .int .i64 (t.kids.el.length:Nat)∧get (po 47) e = .int .i64 (i:Nat))
        (fun z e n' G=>z = .exit 0∧N+11≤n'∧∃ hb',Hp n hb' n' G∧Cnt r (runMs g t.form 0 t.kids.el d (L - 1)).2 h1 hb'∧getO G n = (Ob.row 6 [.agg [.int .i64 (t).form,.int .i64 (t).n,.bool (t).hid,.str (t).name,slD 2 encL (t).levels,slD 6 encT (t).kids]])∧getO G (n+1) = (Ob.row 6 [.agg [.int .i64 0,.int .i64 0,.bool false,.str [],.nils,.nils]])∧getO G (N+1) = .row 6 [.agg [.int .i64 t.form,.int .i64 bn,.bool bh,.str bs,lv,.ms 6 (N+10) 0 t.kids.el.length false]] ∧
          ∃ ds rt,getO G (N+10) = .row 6 ds∧Tqs G (runMs g t.form 0 t.kids.el d (L - 1)).1 ds rt∧rt.Nodup ∧ (∀ q,q∈rt→N+11≤q∧q < n')∧Lq G bl lv rl∧get (po 8) e = .ptr (n+1) 0 0∧get (po 11) e = .ptr (N+1) 0 0)
        (by
          rintro e n' G ⟨p1,⟨hb',H,V⟩,zn,z1,z27,⟨ds,rt,z36,TT,hnd,hrt⟩,LL,q1,q2,q3,q4,q8,q11,q45,q46,q47⟩
          rw [List.take_length] at V TT
          rw [Nat.sub_self,List.replicate_zero,List.append_nil] at z36
          unfold l91_0
          simp (disch:=first|assumption|omega|(simp (disch:=first|assumption|omega) only [sB,reduceAdd,reduceLT,reduceLeDiff,reduceEqDiff,reduceMul,↓reduceIte];done)|fail) only [sA,↓reduceIte,reduceLT,reduceEqDiff,reduceAdd,reduceLeDiff,q46,q47]
          exact ⟨_,_,_,_,rfl,by simp,rfl,by omega,hb',H.mono (by omega),V,zn,z1,z27,ds,rt,z36,TT,hnd,fun q hq=>by have:=hrt q hq; omega,LL,by simp +decide only [sG,q8],by simp +decide only [sG,q11]⟩)
        (by
          rintro i e n' G hi ⟨p1,⟨hb',H,V⟩,zn,z1,z27,⟨ds,rt,z36,TT,hnd,hrt⟩,LL,q1,q2,q3,q4,q8,q11,q45,q46,q47⟩
          have gk:∀ m,n'≤m→Gd m G:=fun m hm k hk=>H.good k (by omega)
          have hu:=undr_low t.form i d
          have hu2:=undr_le t.form i d
          have hkh:=high_kid (t:=t) (List.getElem_mem hi)
          have hkz:=size_kid (t:=t) (List.getElem_mem hi)
          have c3:∀ m,callFn (LX (cFk kL Try.prog)) m [] [.int .i64 t.form,.int .i64 (i:Nat),.int .i64 d] (cFk kL Try.prog 119) = .ok (.int .i64 (undr t.form i d)) m []:=fun m=>pUnder m [] (fun _ _=>good_nil) t.form i d (by omega)
          have hlow':=runMs_low hS t.form d (t.kids.el.take i) 0 (L - 1)
          have hlS:=runMs_len g t.form d (t.kids.el.take i) 0 (L - 1)
          rw [List.length_take,Nat.min_eq_left (Nat.le_of_lt hi)] at hlS
          rw [runMs_take g t.form d (L - 1) hi]
          generalize hW:t.kids.el[i]=W at hkh hkz
          generalize hSe:runMs g t.form 0 (t.kids.el.take i) d (L - 1)=S at V TT hlow' hlS ⊢
          have hdl:=TT.len
          rw [hlS] at hdl
          have eW:encT t.kids.el[i] = (D.agg [.int .i64 (W).form,.int .i64 (W).n,.bool (W).hid,.str (W).name,slD 2 encL (W).levels,slD 6 encT (W).kids]):=by rw [hW,encT_eq]
          have hGr:getO G r = .row 1 [.int .i64 S.2]:=by rw [H.get hr]; exact V.1
          have H5:Hp n hb' (n'+5) ((n'+4,(Ob.row 6 [.agg [.int .i64 (W).form,.int .i64 (W).n,.bool (W).hid,.str (W).name,slD 2 encL (W).levels,slD 6 encT (W).kids]]))::G):=H.box (r:=n'+4) (m:=n'+5) (by omega) (by omega) (flatTA W)
          have hG5:getO ((n'+4,(Ob.row 6 [.agg [.int .i64 (W).form,.int .i64 (W).n,.bool (W).hid,.str (W).name,slD 2 encL (W).levels,slD 6 encT (W).kids]]))::G) r = .row 1 [.int .i64 S.2]:=by rw [getO_tl (by omega)]; exact hGr
          have hreach:reachC ((n'+4,(Ob.row 6 [.agg [.int .i64 (W).form,.int .i64 (W).n,.bool (W).hid,.str (W).name,slD 2 encL (W).levels,slD 6 encT (W).kids]]))::G) [(D.agg [.int .i64 (W).form,.int .i64 (W).n,.bool (W).hid,.str (W).name,slD 2 encL (W).levels,slD 6 encT (W).kids]),.int .i64 (undr t.form i d),.ptr r 0 0,c] (.fn 91 [] [])=[r]:=reach_cnt hG5 (.inl hc)
          have hky:∀ m,n'+5≤m→keysFrom m ((n'+4,(Ob.row 6 [.agg [.int .i64 (W).form,.int .i64 (W).n,.bool (W).hid,.str (W).name,slD 2 encL (W).levels,slD 6 encT (W).kids]]))::G)=[]:=fun m hm=>keys_low (H5.good m hm)
          have hrd:rfL (rd 20) [(D.agg [.int .i64 (W).form,.int .i64 (W).n,.bool (W).hid,.str (W).name,slD 2 encL (W).levels,slD 6 encT (W).kids]),.int .i64 (undr t.form i d),.ptr r 0 0,c]=r::appN (rd 20 c) []:=by
            show appN (rd (18+2) (D.agg [.int .i64 (W).form,.int .i64 (W).n,.bool (W).hid,.str (W).name,slD 2 encL (W).levels,slD 6 encT (W).kids])) (appN [] (appN [r] (appN (rd 20 c) [])))=_
            rw [rdT]; rfl
          have hWm:W∈t.kids.el:=by rw [← hW]; exact List.getElem_mem hi
          have hszW:sizeTs ((t.kids.el.take i).map Tm.abs)+sizeT W.abs≤sizeTs (t.kids.el.map Tm.abs):=by
            have:=size_take hi
            rw [hW] at this
            have:=size_take_le t.kids.el (i+1)
            omega
          have hsa:=size_abs t
          obtain ⟨dd,n1,gg,hb1,rs,k1,T1,K1',k2,hn1⟩:=ih W hWm (hks W hWm) (by omega) (by omega) (undr t.form i d) S.2 (by omega) (by omega) (by omega) (by omega) (n'+12094627905543+1) [(r,.row 1 [.int .i64 S.2])] (fun k hk=>good_cons.2 ⟨by omega,lowI,good_nil⟩) (by omega) getO_hd
          obtain ⟨G1,e5,TG,gr1,gq1,hH1⟩:=sub_kept (call:=callX (cFk kL Try.prog) (LX (cFk kL Try.prog))) (m:=n'+12094627905543) (q:=91) (v := (runM g W (undr t.form i d) S.2).1) hG5 (by omega) (.inl hc) hci (by rw [callX_fn]; exact k1) T1 k2 K1'
          obtain ⟨hb2,H2,V2⟩:=hH1 n hb' (by omega) hr (H5.mono (by omega))
          rw [hreach] at e5
          have hn1':=K1'.hp.le
          have hrs:∀ q,q∈rs→n'+12094627905544≤q∧q < n1:=K1'.ge
          have hndr:=K1'.nd
          generalize runM g W (undr t.form i d) S.2=X at TG V2
          clear k1 T1 k2 K1' hH1 ih
          obtain ⟨lv',kd',rfl,rw1,rw2⟩:=TG.form
          have yq:∀ q,q < n'→q≠r→getO G1 q=getO G q:=fun q h1 h2=>by rw [gq1 q (by omega) h2,getO_tl (by omega)]
          have y36:getO G1 (N+10) = .row 6 (ds++List.replicate (t.kids.el.length - i) (D.agg [.int .i64 0,.int .i64 0,.bool false,.str [],.nils,.nils])):=by rw [yq _ (by omega) (by omega)]; exact z36
          have hst:∀ m,storeR true 6 (N+10) i 0 (.agg [.int .i64 X.1.form,.int .i64 X.1.n,.bool X.1.hid,.str X.1.name,lv',kd']) m G1 (.row 6 (ds++List.replicate (t.kids.el.length - i) (D.agg [.int .i64 0,.int .i64 0,.bool false,.str [],.nils,.nils]))) = .ok .junk m (setO G1 (N+10) (.row 6 (ds++[.agg [.int .i64 X.1.form,.int .i64 X.1.n,.bool X.1.hid,.str X.1.name,lv',kd']]++List.replicate (t.kids.el.length - (i+1)) (D.agg [.int .i64 0,.int .i64 0,.bool false,.str [],.nils,.nils])))):=fun m=>by
            have e1:t.kids.el.length - i = (t.kids.el.length - (i+1))+1:=by omega
            have e2 : (ds++List.replicate (t.kids.el.length - i) (D.agg [.int .i64 0,.int .i64 0,.bool false,.str [],.nils,.nils])).set i (.agg [.int .i64 X.1.form,.int .i64 X.1.n,.bool X.1.hid,.str X.1.name,lv',kd'])=ds++[.agg [.int .i64 X.1.form,.int .i64 X.1.n,.bool X.1.hid,.str X.1.name,lv',kd']]++List.replicate (t.kids.el.length - (i+1)) (D.agg [.int .i64 0,.int .i64 0,.bool false,.str [],.nils,.nils]):=by
              rw [e1,List.replicate_succ,List.set_append_right _ _ (by omega),hdl,Nat.sub_self]
              simp
            rw [storeR_all (k:=6) (es:=ds++List.replicate (t.kids.el.length - i) (D.agg [.int .i64 0,.int .i64 0,.bool false,.str [],.nils,.nils])) (xs:=[.int .i64 X.1.form,.int .i64 X.1.n,.bool X.1.hid,.str X.1.name,lv',kd']) (ys:=[.int .i64 0,.int .i64 0,.bool false,.str [],.nils,.nils]) (by rw [e1,List.replicate_succ,← hdl]; simp) (by rw [List.length_append,List.length_replicate]; omega) rfl rfl]
            rw [e2]
          unfold l91_0
          simp (disch:=first|assumption|omega|(simp (disch:=first|assumption|omega) only [sB,reduceAdd,reduceLT,reduceLeDiff,reduceEqDiff,reduceMul,↓reduceIte];done)|fail) only [sA,↓reduceIte,reduceLT,reduceEqDiff,reduceAdd,reduceLeDiff,q1,q2,q3,q4,q8,q11,q45,q46,q47,c3,eW,zn,z27,hrd,hreach,hky,e5,y36,apartR_cons,iaddr_ms,hst,keys_disj]
          have hlowX:∀ k,n1≤k→lowO k (.row 6 (ds++[.agg [.int .i64 X.1.form,.int .i64 X.1.n,.bool X.1.hid,.str X.1.name,lv',kd']]++List.replicate (t.kids.el.length - (i+1)) (D.agg [.int .i64 0,.int .i64 0,.bool false,.str [],.nils,.nils]))):=fun k hk=>lowO_row (fun x hx=>by
            rcases List.mem_append.1 hx with hx | hx
            · rcases List.mem_append.1 hx with hx | hx
              · exact TT.low (fun q hq=>by have:=hrt q hq; omega) x hx
              · rw [List.mem_singleton.1 hx]; exact TG.low (fun q hq=>by have:=hrs q hq; omega)
            · rw [(List.mem_replicate.1 hx).2]; exact lowZ k)
          have zz:∀ q,q < n'→q≠r→q≠N+10→∀ X,getO (setO G1 (N+10) X) q=getO G q:=fun q h1 h2 h3 X=>by rw [getO_ne h3,yq q h1 h2]
          refine ⟨_,_,_,_,rfl,.inl ⟨rfl,by omega,⟨hb2,(H2.set (r:=N+10) (by omega) hlowX).mono (by omega),V.trans V2⟩,by rw [zz n (by omega) (by omega) (by omega)]; exact zn,by rw [zz (n+1) (by omega) (by omega) (by omega)]; exact z1,by rw [zz (N+1) (by omega) (by omega) (by omega)]; exact z27,⟨_,rt++rs,getO_set1 y36,Tqs.app (Tq.congr _ _ _ TG (fun q hq=>by have:=hrs q hq; rw [getO_ne (by omega)])) (TT.congr' (fun q hq=>by have:=hrt q hq; rw [zz q (by omega) (by omega) (by omega)])),?_,?_⟩,LL.congr (fun q hq=>by have:=hrl q hq; rw [zz q (by omega) (by omega) (by omega)]),by simp +decide only [sG,q1],by simp +decide only [sG,q2],by simp +decide only [sG,q3],by simp +decide only [sG,q4],by simp +decide only [sG,q8],by simp +decide only [sG,q11],by simp +decide only [sG,q45],by simp +decide only [sG,q46],by simp +decide only [sG]⟩⟩
          · refine List.nodup_append.2 ⟨hnd,hndr,fun a ha b hb' e=>?_⟩
            have:=hrt a ha
            have:=hrs b hb'
            omega
          · intro q hq
            rcases List.mem_append.1 hq with hq | hq
            · have:=hrt q hq; omega
            · have:=hrs q hq; omega)
        ⟨by omega,⟨h1,HI.mono (by omega),by rw [List.take_zero,runMs_nil]; exact Cnt.refl b1⟩,by rw [getO_tl (by omega),getO_tl (by omega)]; exact z0,by rw [getO_tl (by omega),getO_tl (by omega)]; exact z1,by rw [getO_tl (by omega),getO_hd],⟨[],[],by rw [getO_hd,List.nil_append,Nat.sub_zero],by rw [List.take_zero,runMs_nil]; exact Tqs_nil.2 ⟨rfl,rfl⟩,List.nodup_nil,fun q hq=>by cases hq⟩,HL.congr (fun q hq=>by have:=hrl q hq; rw [getO_tl (by omega),getO_tl (by omega)]),by simp +decide only [sG],by simp +decide only [sG],by simp +decide only [sG],by simp +decide only [sG],by simp +decide only [sG],by simp +decide only [sG],by simp +decide only [sG],by simp +decide only [sG],by simp (disch:=first|assumption|omega|(simp (disch:=first|assumption|omega) only [sB,reduceAdd,reduceLT,reduceLeDiff,reduceEqDiff,reduceMul,↓reduceIte];done)|fail) only [sA,↓reduceIte,reduceLT,reduceEqDiff,reduceAdd,reduceLeDiff]⟩
      have hkl : (runMs g t.form 0 t.kids.el d (L - 1)).1.length=t.kids.el.length:=runMs_len g t.form d t.kids.el 0 (L - 1)
      have hhi:highT (bareT t (runMs g t.form 0 t.kids.el d (L - 1)).1).abs≤highT t.abs:=by
        have:=run_high hG t d L
        rw [runM_eq,if_neg h0,hgt] at this
        exact this
      have hsi:sizeT (bareT t (runMs g t.form 0 t.kids.el d (L - 1)).1).abs≤sizeT t.abs:=by
        have:=run_size hG t d L
        rw [runM_eq,if_neg h0,hgt] at this
        exact this
      show ∃ dd n2 h' h1 rs,_∧Tq h' (bareT t (runMs g t.form 0 t.kids.el d (L - 1)).1) dd rs∧Kq n h1 n2 h' rs∧Cnt r (runMs g t.form 0 t.kids.el d (L - 1)).2 h h1∧n2≤n+2*sizeT t.abs
      generalize (runMs g t.form 0 t.kids.el d (L - 1)).1=ks at TT hkl hhi hsi ⊢
      have w2:∀ X,getO (setO G (n+1) X) (n+1)=X:=fun X=>getO_setO_same (by rw [y1]; simp)
      have hrlG:∀ q,q∈rl ++ (N+10)::rt→n≤q:=fun q hq=>by
        rcases List.mem_append.1 hq with hq | hq
        · have:=hrl q hq; omega
        · rcases List.mem_cons.1 hq with rfl | hq
          · omega
          · have:=hrt q hq; omega
      have TQ:∀ X,Tq (setO G (n+1) X) (bareT t ks) (.agg [.int .i64 t.form,.int .i64 bn,.bool bh,.str bs,lv,.ms 6 (N+10) 0 t.kids.el.length false]) (rl ++ (N+10)::rt):=fun X=>by
        rw [hbt,Tq,← hkl]
        exact ⟨⟨rfl,rfl,rfl,rfl,rfl,rfl⟩,lv,_,rl,_,rfl,rfl,LL.congr (fun q hq=>by have:=hrl q hq; rw [getO_ne (by omega)]),.inr ⟨N+10,ds,rt,fun e=>by rw [e,List.length_nil] at hkl; omega,rfl,rfl,by rw [getO_ne (by omega)]; exact z36,TT.congr' (fun q hq=>by have:=hrt q hq; rw [getO_ne (by omega)])⟩⟩
      have ndr : (rl ++ (N+10)::rt).Nodup:=by
        refine List.nodup_append.2 ⟨K1.nd,List.nodup_cons.2 ⟨fun h=>by have:=hrt _ h; omega,hnd⟩,fun a ha b hb e=>?_⟩
        have:=hrl a ha
        rcases List.mem_cons.1 hb with rfl | hb
        · omega
        · have:=hrt b hb; omega
      have HH:Hp n hbz (nz+2) (setO G (n+1) (.row 6 [.agg [.int .i64 t.form,.int .i64 bn,.bool bh,.str bs,lv,.ms 6 (N+10) 0 t.kids.el.length false]])) := (Hz.set (r:=n+1) (by omega) (fun k hk=>hms k (by omega))).mono (by omega)
      have gz:Gd n hbz:=Vz.gd hr g1
      obtain ⟨d',h',rs',e,T',K⟩:=keep_tm HH gz (TQ _) (by omega) ndr hrlG
      have hl2:=Tq.leng _ _ _ (TQ (.row 6 []))
      refine ⟨d',_,h',hbz,rs',?_,T',K,U1.trans Vz,by omega⟩
      simp (disch:=first|assumption|omega|(simp (disch:=first|assumption|omega) only [sB,reduceAdd,reduceLT,reduceLeDiff,reduceEqDiff,reduceMul,↓reduceIte];done)|fail) only [sA,↓reduceIte,reduceLT,reduceEqDiff,reduceAdd,reduceLeDiff,q8,q11,z27,y1,w2,e]
end Go.Proofs.Ytdijijblccmfbaa
