/- The program's map over a term, stepped through. No condition but sizes. -/
import Derived.Test.YtpbpmpabndgeeaaTM
set_option linter.unusedSimpArgs false
set_option linter.unusedVariables false
namespace Go.Proofs.Ytpbpmpabndgeeaa
open Go
open Nat (reduceAdd reduceLT reduceLeDiff reduceEqDiff reduceMul)

def slimT (t:Trm):Bool:=allT (fun t=>decide (t.kids.length≤1000000) && (!decide (t.form=1) || decide (0≤t.n∧t.n≤100000000000)) && (!decide (t.form=2∨t.form=10) || (decide (t.levels.length≤1000000000) && t.levels.all fun x=>decide (x.v.length≤1000000000)))) t
theorem slim_eq (t:Trm):slimT t = (decide (t.kids.length≤1000000) && (!decide (t.form=1) || decide (0≤t.n∧t.n≤100000000000)) && (!decide (t.form=2∨t.form=10) || (decide (t.levels.length≤1000000000) && t.levels.all fun x=>decide (x.v.length≤1000000000))) && t.kids.all slimT):=by
  show allT _ t=_
  rw [allT_eq,allTs_eq]; rfl
theorem slim_tm {t:Tm} (h:slimT t.abs=true):t.kids.el.length≤1000000 ∧ (t.form=1→0≤t.n∧t.n≤100000000000)∧thin t∧∀ k,k∈t.kids.el→slimT k.abs=true:=by
  rw [slim_eq,abs_kids,abs_form,abs_n,abs_levels,List.length_map,List.length_map,List.all_map,List.all_map] at h
  simp only [Bool.and_eq_true,Bool.or_eq_true,decide_eq_true_iff,Bool.not_eq_true',decide_eq_false_iff_not,List.all_eq_true] at h
  obtain ⟨⟨⟨h1,h2⟩,h3⟩,h4⟩:=h
  refine ⟨h1,fun e=>h2.resolve_left (fun hh=>hh e),fun e=>?_,h4⟩
  obtain ⟨a,b⟩:=h3.resolve_left (fun hh=>hh e)
  exact ⟨a,fun x hx=>of_decide_eq_true (b x hx)⟩
def DoesOk (c:D) (r:Nat) (g:Does) (M:Int):Prop:=∀ t:Tm,slimT t.abs=true→∀ d L:Int,0≤d→d≤1000000 → -1000000000000000≤L - M→L≤10000000000000→∀ (n:Nat) (h:Hps),Gd n h→r < n→getO h r = .row 1 [.int .i64 L] →
  (g t d L=none→callX (cF Try.prog) (LX (cF Try.prog)) n h c [(D.agg [.int .i64 (t).form,.int .i64 (t).n,.bool (t).hid,.str (t).name,slD 2 encL (t).levels,slD 6 encT (t).kids]),.int .i64 d] = .ok (.tup [(D.agg [.int .i64 0,.int .i64 0,.bool false,.str [],.nils,.nils]),.bool false]) n h)∧∀ x,g t d L=some x→∃ h',callX (cF Try.prog) (LX (cF Try.prog)) n h c [(D.agg [.int .i64 (t).form,.int .i64 (t).n,.bool (t).hid,.str (t).name,slD 2 encL (t).levels,slD 6 encT (t).kids]),.int .i64 d] = .ok (.tup [encT x.1,.bool true]) n h'∧Cnt r x.2 h h'
theorem enc_zero:encT zeroT = (D.agg [.int .i64 0,.int .i64 0,.bool false,.str [],.nils,.nils]):=by rw [encT_eq]; rfl

theorem elemT:ElemOk 6 encT:=⟨fun c=>by rw [encT_eq]; simp [flat2_agg,flat1_slD,flat1_int,flat1_str,show flat1 (.bool c.hid)=true from rfl],fun c=>by
  show Bool.and (okF 6 (encT c)) (clo 20 (encT c))=true
  rw [encT_eq]
  show Bool.and true (allL (clo 19) [.int .i64 c.form,.int .i64 c.n,.bool c.hid,.str c.name,slD 2 encL c.levels,slD 6 encT c.kids])=true
  rw [allL_eq]
  simp [clo_slD]
  exact ⟨rfl,rfl,rfl,rfl⟩⟩
theorem iaddr_ms {n k r l i:Nat} {h:Hps} {f:Bool} (hi:i < l):iaddrD n h k (.ms k r 0 l f) i = .ok (.ptr r i 0) n h:=by
  show ifR (Bool.and (Nat.blt i l) (Nat.beq k k)) (.ok (.ptr r (0+i) 0) n h)=_
  rw [blt_iff,decide_eq_true hi,Nat.beq_refl,Nat.zero_add]; rfl
theorem store_tm {m q i:Nat} {h:Hps} {l:List Tm} {x:Tm} (hi:i < l.length):storeR true 6 q i 0 (D.agg [.int .i64 (x).form,.int .i64 (x).n,.bool (x).hid,.str (x).name,slD 2 encL (x).levels,slD 6 encT (x).kids]) m h (.row 6 (l.map encT)) = .ok .junk m (setO h q (.row 6 ((l.set i x).map encT))):=by
  have e1:nth (l.map encT) i=encT l[i]:=by rw [nth_eq,List.getD_eq_getElem?_getD,List.getElem?_map,List.getElem?_eq_getElem hi]; rfl
  have e2:setS true 6 0 (encT l[i]) (D.agg [.int .i64 (x).form,.int .i64 (x).n,.bool (x).hid,.str (x).name,slD 2 encL (x).levels,slD 6 encT (x).kids]) = (D.agg [.int .i64 (x).form,.int .i64 (x).n,.bool (x).hid,.str (x).name,slD 2 encL (x).levels,slD 6 encT (x).kids]):=by rw [encT_eq]; rfl
  show storeS q 6 i (l.map encT) m h (setS true 6 0 (nth (l.map encT) i) (D.agg [.int .i64 (x).form,.int .i64 (x).n,.bool (x).hid,.str (x).name,slD 2 encL (x).levels,slD 6 encT (x).kids]))=_
  rw [e1,e2]
  show ifR (Nat.blt i (lenL (l.map encT))) (.ok .junk m (setO h q (.row 6 (put (l.map encT) i (D.agg [.int .i64 (x).form,.int .i64 (x).n,.bool (x).hid,.str (x).name,slD 2 encL (x).levels,slD 6 encT (x).kids])))))=_
  rw [lenL_eq,List.length_map,blt_iff,decide_eq_true hi,put_eq,← encT_eq,List.map_set]
  rfl
theorem mksl_eq {n k b m:Nat} {h:Hps} {z:D} (hs:m*b≤140737488355328):mkslD n h k b z m = .ok (.ms k n 0 m false) n ((n,.row k (List.replicate m z))::h):=by
  show ifR (Nat.ble (m*b) most) (.ok (.ms k n 0 m false) n ((n,.row k (repL z m))::h))=_
  rw [repL_eq,ble_iff,show most=140737488355328 from rfl,decide_eq_true hs]
  rfl
theorem low_tms {m q len:Nat} {f a:Int} {b:Bool} {c:List Nat} {s:Sl SLev} (hr:q < m):low m (.agg [.int .i64 f,.int .i64 a,.bool b,.str c,slD 2 encL s,.ms 6 q 0 len false]):=low_agg (fun x hx=>by
  rcases List.mem_cons.1 hx with rfl | hx
  · rfl
  rcases List.mem_cons.1 hx with rfl | hx
  · rfl
  rcases List.mem_cons.1 hx with rfl | hx
  · rfl
  rcases List.mem_cons.1 hx with rfl | hx
  · rfl
  rcases List.mem_cons.1 hx with rfl | hx
  · exact (plain1 18 flat1_slD).hasR m
  · rw [List.mem_singleton.1 hx]; exact ble_f hr)
set_option maxHeartbeats 8000000 in
theorem mapRun {c:D} {r:Nat} {g:Does} {M:Int} (hS:Steady g M) (hM:M≤100000) (hc:rd 20 c=[]∨rd 20 c=[r]) (hci:inD (fun x=>memN x [r]) 20 c=true) (hD:DoesOk c r g M):∀ t:Tm,slimT t.abs=true→∀ d L:Int,0≤d→d+highT t.abs≤1000000 → -1000000000000000+sizeT t.abs * (M+1)≤L→L≤10000000000000→∀ (n:Nat) (h:Hps),Gd n h→r < n→getO h r = .row 1 [.int .i64 L] →
    ∃ h',callFn (LX (cF Try.prog)) n h [(D.agg [.int .i64 (t).form,.int .i64 (t).n,.bool (t).hid,.str (t).name,slD 2 encL (t).levels,slD 6 encT (t).kids]),.int .i64 d,.ptr r 0 0,c] (cF Try.prog 61) = .ok (encT (runM g t d L).1) n h'∧Cnt r (runM g t d L).2 h h':=by
  refine Tm.ind ?_
  intro t ih hsl d L hd0 hd hL1 hL2 n h hg hr hb
  obtain ⟨hk,hv,hth,hks⟩:=slim_tm hsl
  have hgn:=hg n (Nat.le_refl _)
  have hhp:=highT_pos t.abs
  have hM0:=hS.1
  have hsz : (M+1:Int)≤sizeT t.abs * (M+1):=by
    have:=sizeT_pos t.abs
    have:=Int.mul_le_mul_of_nonneg_right (show (1:Int)≤sizeT t.abs by omega) (show (0:Int)≤M+1 by omega)
    omega
  have U1:Cnt r (L - 1) h (setO h r (.row 1 [.int .i64 (L - 1)])):=Cnt.set hb
  generalize hh1:setO h r (.row 1 [.int .i64 (L - 1)])=h1 at U1
  have g1:=U1.gd hr hg
  have b1:=U1.1
  have HX:∀ hx X,Gd n hx→flat X=true→Hp n hx (n+2) ((n+1,.row 6 [X]) :: (n,(Ob.row 6 [.agg [.int .i64 (t).form,.int .i64 (t).n,.bool (t).hid,.str (t).name,slD 2 encL (t).levels,slD 6 encT (t).kids]]))::hx):=fun hx X gx fx => ((Hp.start gx).box (r:=n) (m:=n+1) (Nat.le_refl _) (by omega) (flatTA t)).box (r:=n+1) (m:=n+2) (by omega) (by omega) fx
  have HP:∀ hx,Gd n hx→Hp n hx (n+2) ((n+1,(Ob.row 6 [.agg [.int .i64 0,.int .i64 0,.bool false,.str [],.nils,.nils]])) :: (n,(Ob.row 6 [.agg [.int .i64 (t).form,.int .i64 (t).n,.bool (t).hid,.str (t).name,slD 2 encL (t).levels,slD 6 encT (t).kids]]))::hx):=fun hx gx=>HX hx _ gx rfl
  rw [runM_eq]
  by_cases h0:L - 1 < 0
  · rw [if_pos h0]
    refine ⟨h1,?_,U1⟩
    show _=Rd.ok (encT zeroT) n h1
    rw [enc_zero]
    rw [f61_eq]; unfold c61; rw [callFn_eq (by rfl)]
    simp (disch:=first|assumption|omega|(simp (disch:=first|assumption|omega) only [sB,reduceAdd,reduceLT,reduceLeDiff,reduceEqDiff,reduceMul,↓reduceIte];done)|fail) only [sA,↓reduceIte,reduceLT,reduceEqDiff,reduceAdd,reduceLeDiff,hb,hh1,b1,h0]
    exact finish_flat rfl ((HP h1 g1).mono (by omega))
  · rw [if_neg h0]
    have D0:=hD t hsl d (L - 1) hd0 (by omega) (by omega) (by omega) (n+16) ((n+1,(Ob.row 6 [.agg [.int .i64 0,.int .i64 0,.bool false,.str [],.nils,.nils]])) :: (n,(Ob.row 6 [.agg [.int .i64 (t).form,.int .i64 (t).n,.bool (t).hid,.str (t).name,slD 2 encL (t).levels,slD 6 encT (t).kids]]))::h1) (fun k hk => (HP h1 g1).good k (by omega)) (by omega) (by rw [getO_tl (by omega),getO_tl (by omega)]; exact b1)
    cases hgt:g t d (L - 1) with
    | some x =>
      obtain ⟨h2,e2,U2⟩:=D0.2 x hgt
      rw [encT_eq] at e2
      have w1:getO h2 (n+1) = (Ob.row 6 [.agg [.int .i64 0,.int .i64 0,.bool false,.str [],.nils,.nils]]):=by rw [U2.get (by omega),getO_hd]
      have w2:∀ X,getO (setO h2 (n+1) X) (n+1)=X:=fun X=>getO_setO_same (by rw [w1]; simp)
      obtain ⟨hb1,H2,V2⟩:=Cnt.hp ((HP h1 g1).mono (show n+2≤n+16 by omega)) U2 hr
      refine ⟨hb1,?_,U1.trans V2⟩
      show _=Rd.ok (encT x.1) n hb1
      rw [encT_eq]
      rw [f61_eq]; unfold c61; rw [callFn_eq (by rfl)]
      simp (disch:=first|assumption|omega|(simp (disch:=first|assumption|omega) only [sB,reduceAdd,reduceLT,reduceLeDiff,reduceEqDiff,reduceMul,↓reduceIte];done)|fail) only [sA,↓reduceIte,reduceLT,reduceEqDiff,reduceAdd,reduceLeDiff,hb,hh1,b1,h0,e2,w1,w2]
      exact finish_flat (flatTA x.1) ((H2.set (r:=n+1) (by omega) (fun k hk=>lowO_one (low_flat (flatTA _)))).box (r:=n+20) (m:=n+26) (by omega) (by omega) (flatTA x.1))
    | none =>
      have e2:=D0.1 hgt
      have hG1:∀ m,n≤m→Gd m h1:=fun m hm=>g1.mono hm
      have c1:∀ m h,Gd m h→callFn (LX (cF Try.prog)) m h [(D.agg [.int .i64 (t).form,.int .i64 (t).n,.bool (t).hid,.str (t).name,slD 2 encL (t).levels,slD 6 encT (t).kids])] (cF Try.prog 82) = .ok (encT (bareT t [])) m h:=fun m h hg=>pBare m h hg t hth
      obtain ⟨bn,bh,bs,bl,hbt⟩:∃ bn bh bs bl,∀ ks,bareT t ks = .mk t.form bn bh bs bl true false ks []:=⟨_,_,_,_,fun _=>rfl⟩
      have ebt:encT (bareT t []) = .agg [.int .i64 t.form,.int .i64 bn,.bool bh,.str bs,slD 2 encL bl,.nils]:=by rw [hbt]; rfl
      rw [ebt] at c1
      by_cases hkn:t.kids.el=[]
      · rw [hkn,runMs_nil]
        refine ⟨h1,?_,U1⟩
        show _=Rd.ok (encT (bareT t [])) n h1
        rw [ebt]
        have hlen:t.kids.el.length=0:=by rw [hkn]; rfl
        rw [f61_eq]; unfold c61; rw [callFn_eq (by rfl)]
        simp (disch:=first|assumption|omega|(simp (disch:=first|assumption|omega) only [sB,reduceAdd,reduceLT,reduceLeDiff,reduceEqDiff,reduceMul,↓reduceIte,gd_tm,gd_zt,hG1];done)|fail) only [sA,↓reduceIte,reduceLT,reduceEqDiff,reduceAdd,reduceLeDiff,hb,hh1,b1,h0,e2,c1,hlen,LX_loop,gd_tm,gd_zt,hG1]
        unfold l61_0
        simp (disch:=first|assumption|omega|(simp (disch:=first|assumption|omega) only [sB,reduceAdd,reduceLT,reduceLeDiff,reduceEqDiff,reduceMul,↓reduceIte];done)|fail) only [sA,↓reduceIte,reduceLT,reduceEqDiff,reduceAdd,reduceLeDiff]
        have fb:flat (.agg [.int .i64 t.form,.int .i64 bn,.bool bh,.str bs,slD 2 encL bl,.nils])=true:=by rw [← ebt]; exact flatT _
        exact finish_flat fb ((((HX h1 _ g1 fb).box (r:=n+20) (m:=n+21) (by omega) (by omega) rfl).box (r:=n+27) (m:=n+40) (by omega) (by omega) fb))
      · have hlen:0 < t.kids.el.length:=List.length_pos_iff.2 hkn
        have hlen2 : (0:Int) < (t.kids.el.length:Nat):=by omega
        have fb:flat (.agg [.int .i64 t.form,.int .i64 bn,.bool bh,.str bs,slD 2 encL bl,.nils])=true:=by rw [← ebt]; exact flatT _
        have hms:∀ k,n+37≤k→lowO k (.row 6 [.agg [.int .i64 t.form,.int .i64 bn,.bool bh,.str bs,slD 2 encL bl,.ms 6 (n+36) 0 t.kids.el.length false]]):=fun k hk=>lowO_one (low_tms (by omega))
        have hz6 : (List.replicate t.kids.el.length zeroT).map encT=List.replicate t.kids.el.length (D.agg [.int .i64 0,.int .i64 0,.bool false,.str [],.nils,.nils]):=by rw [List.map_replicate,enc_zero]
        have HI:Hp n h1 (n+37) ((n+36,.row 6 (List.replicate t.kids.el.length (D.agg [.int .i64 0,.int .i64 0,.bool false,.str [],.nils,.nils]))) :: (n+27,.row 6 [.agg [.int .i64 t.form,.int .i64 bn,.bool bh,.str bs,slD 2 encL bl,.ms 6 (n+36) 0 t.kids.el.length false]]) :: (n+20,(Ob.row 6 [.agg [.int .i64 0,.int .i64 0,.bool false,.str [],.nils,.nils]])) :: (n+1,(Ob.row 6 [.agg [.int .i64 0,.int .i64 0,.bool false,.str [],.nils,.nils]])) :: (n,(Ob.row 6 [.agg [.int .i64 (t).form,.int .i64 (t).n,.bool (t).hid,.str (t).name,slD 2 encL (t).levels,slD 6 encT (t).kids]]))::h1):=by
          have := ((((HP h1 g1).box (r:=n+20) (m:=n+21) (k:=6) (d := (D.agg [.int .i64 0,.int .i64 0,.bool false,.str [],.nils,.nils])) (by omega) (by omega) rfl).box (r:=n+27) (m:=n+28) (k:=6) (by omega) (by omega) fb).cons (r:=n+36) (m:=n+37) (o := .row 6 (List.replicate t.kids.el.length (D.agg [.int .i64 0,.int .i64 0,.bool false,.str [],.nils,.nils]))) (by omega) (by omega) (fun k _=>by rw [← hz6]; exact lowO_map (fun x=>low_flat (flatT x)))).set (r:=n+27) (by omega) hms
          rw [setO_tl (by omega),setO_hd] at this
          exact this
        rw [f61_eq]; unfold c61; rw [callFn_eq (by rfl)]
        simp (disch:=first|assumption|omega|(simp (disch:=first|assumption|omega) only [sB,reduceAdd,reduceLT,reduceLeDiff,reduceEqDiff,reduceMul,↓reduceIte,gd_tm,gd_zt,hG1];done)|fail) only [sA,↓reduceIte,reduceLT,reduceEqDiff,reduceAdd,reduceLeDiff,hb,hh1,b1,h0,e2,c1,hlen2,mksl_eq,gd_tm,gd_zt,hG1]
        generalize hR:LX (cF Try.prog) (.loop l61_0) _ _ _=R
        obtain ⟨z,ez,nz,G,rfl,rfl,hbz,Hz,Vz,zn,z1,z27,z36,q8,q11⟩:=loop_up hR t.kids.el.length
          (fun i e n' G=>n+37≤n' ∧ (∃ hb',Hp n hb' n' G∧Cnt r (runMs g t.form 0 (t.kids.el.take i) d (L - 1)).2 h1 hb')∧getO G n = (Ob.row 6 [.agg [.int .i64 (t).form,.int .i64 (t).n,.bool (t).hid,.str (t).name,slD 2 encL (t).levels,slD 6 encT (t).kids]])∧getO G (n+1) = (Ob.row 6 [.agg [.int .i64 0,.int .i64 0,.bool false,.str [],.nils,.nils]])∧getO G (n+27) = .row 6 [.agg [.int .i64 t.form,.int .i64 bn,.bool bh,.str bs,slD 2 encL bl,.ms 6 (n+36) 0 t.kids.el.length false]] ∧
            getO G (n+36) = .row 6 (((runMs g t.form 0 (t.kids.el.take i) d (L - 1)).1++List.replicate (t.kids.el.length - i) zeroT).map encT) ∧
            get (po 1) e = .int .i64 d∧get (po 2) e = .ptr r 0 0∧get (po 3) e=c∧get (po 4) e = .ptr n 0 0∧get (po 8) e = .ptr (n+1) 0 0∧get (po 11) e = .ptr (n+27) 0 0∧get (po 45) e=slD 6 encT t.kids∧get (po 46) e = .int .i64 (t.kids.el.length:Nat)∧get (po 47) e = .int .i64 (i:Nat))
          (fun z e n' G=>z = .exit 0∧∃ hb',Hp n hb' n' G∧Cnt r (runMs g t.form 0 t.kids.el d (L - 1)).2 h1 hb'∧getO G n = (Ob.row 6 [.agg [.int .i64 (t).form,.int .i64 (t).n,.bool (t).hid,.str (t).name,slD 2 encL (t).levels,slD 6 encT (t).kids]])∧getO G (n+1) = (Ob.row 6 [.agg [.int .i64 0,.int .i64 0,.bool false,.str [],.nils,.nils]])∧getO G (n+27) = .row 6 [.agg [.int .i64 t.form,.int .i64 bn,.bool bh,.str bs,slD 2 encL bl,.ms 6 (n+36) 0 t.kids.el.length false]] ∧
            getO G (n+36) = .row 6 ((runMs g t.form 0 t.kids.el d (L - 1)).1.map encT)∧get (po 8) e = .ptr (n+1) 0 0∧get (po 11) e = .ptr (n+27) 0 0)
          (by
            rintro e n' G ⟨p1,⟨hb',H,V⟩,zn,z1,z27,z36,q1,q2,q3,q4,q8,q11,q45,q46,q47⟩
            rw [List.take_length] at V z36
            rw [Nat.sub_self,List.replicate_zero,List.append_nil] at z36
            unfold l61_0
            simp (disch:=first|assumption|omega|(simp (disch:=first|assumption|omega) only [sB,reduceAdd,reduceLT,reduceLeDiff,reduceEqDiff,reduceMul,↓reduceIte];done)|fail) only [sA,↓reduceIte,reduceLT,reduceEqDiff,reduceAdd,reduceLeDiff,q46,q47]
            exact ⟨_,_,_,_,rfl,by simp,rfl,hb',H.mono (by omega),V,zn,z1,z27,z36,by simp +decide only [sG,q8],by simp +decide only [sG,q11]⟩)
          (by
            rintro i e n' G hi ⟨p1,⟨hb',H,V⟩,zn,z1,z27,z36,q1,q2,q3,q4,q8,q11,q45,q46,q47⟩
            have gk:∀ m,n'≤m→Gd m G:=fun m hm k hk=>H.good k (by omega)
            have hu:=undr_low t.form i d
            have hu2:=undr_le t.form i d
            have hkh:=high_kid (t:=t) (List.getElem_mem hi)
            have c3:∀ m,callFn (LX (cF Try.prog)) m [] [.int .i64 t.form,.int .i64 (i:Nat),.int .i64 d] (cF Try.prog 83) = .ok (.int .i64 (undr t.form i d)) m []:=fun m=>pUnder m [] (fun _ _=>good_nil) t.form i d (by omega)
            have hlow:=runMs_low hS t.form d (t.kids.el.take i) 0 (L - 1)
            rw [runMs_take g t.form d (L - 1) hi]
            generalize hW:t.kids.el[i]=W at hkh
            generalize hSe:runMs g t.form 0 (t.kids.el.take i) d (L - 1)=S at V z36 hlow ⊢
            have eW:encT t.kids.el[i] = (D.agg [.int .i64 (W).form,.int .i64 (W).n,.bool (W).hid,.str (W).name,slD 2 encL (W).levels,slD 6 encT (W).kids]):=by rw [hW,encT_eq]
            have hGr:getO G r = .row 1 [.int .i64 S.2]:=by rw [H.get hr]; exact V.1
            have H5:Hp n hb' (n'+5) ((n'+4,(Ob.row 6 [.agg [.int .i64 (W).form,.int .i64 (W).n,.bool (W).hid,.str (W).name,slD 2 encL (W).levels,slD 6 encT (W).kids]]))::G):=H.box (r:=n'+4) (m:=n'+5) (by omega) (by omega) (flatTA W)
            have hG5:getO ((n'+4,(Ob.row 6 [.agg [.int .i64 (W).form,.int .i64 (W).n,.bool (W).hid,.str (W).name,slD 2 encL (W).levels,slD 6 encT (W).kids]]))::G) r = .row 1 [.int .i64 S.2]:=by rw [getO_tl (by omega)]; exact hGr
            have hreach:reachC ((n'+4,(Ob.row 6 [.agg [.int .i64 (W).form,.int .i64 (W).n,.bool (W).hid,.str (W).name,slD 2 encL (W).levels,slD 6 encT (W).kids]]))::G) [(D.agg [.int .i64 (W).form,.int .i64 (W).n,.bool (W).hid,.str (W).name,slD 2 encL (W).levels,slD 6 encT (W).kids]),.int .i64 (undr t.form i d),.ptr r 0 0,c] (.fn 61 [] [])=[r]:=reach_cnt hG5 hc
            have hky:∀ m,n'+5≤m→keysFrom m ((n'+4,(Ob.row 6 [.agg [.int .i64 (W).form,.int .i64 (W).n,.bool (W).hid,.str (W).name,slD 2 encL (W).levels,slD 6 encT (W).kids]]))::G)=[]:=fun m hm=>keys_low (H5.good m hm)
            have hrd:rfL (rd 20) [(D.agg [.int .i64 (W).form,.int .i64 (W).n,.bool (W).hid,.str (W).name,slD 2 encL (W).levels,slD 6 encT (W).kids]),.int .i64 (undr t.form i d),.ptr r 0 0,c]=r::appN (rd 20 c) []:=by
              show appN (rd (18+2) (D.agg [.int .i64 (W).form,.int .i64 (W).n,.bool (W).hid,.str (W).name,slD 2 encL (W).levels,slD 6 encT (W).kids])) (appN [] (appN [r] (appN (rd 20 c) [])))=_
              rw [rdT]; rfl
            have hWm:W∈t.kids.el:=by rw [← hW]; exact List.getElem_mem hi
            have hszW:sizeTs ((t.kids.el.take i).map Tm.abs)+sizeT W.abs≤sizeTs (t.kids.el.map Tm.abs):=by
              have:=size_take hi
              rw [hW] at this
              have:=size_take_le t.kids.el (i+1)
              omega
            have hszX : (sizeTs ((t.kids.el.take i).map Tm.abs):Int) * (M+1)+sizeT W.abs * (M+1) + (M+1)≤sizeT t.abs * (M+1):=by
              have h1:=Int.mul_le_mul_of_nonneg_right (show ((sizeTs ((t.kids.el.take i).map Tm.abs)+sizeT W.abs:Nat):Int)+1≤sizeT t.abs by have:=size_abs t; omega) (show (0:Int)≤M+1 by omega)
              rw [Int.natCast_add,Int.add_mul,Int.add_mul,Int.one_mul] at h1
              exact h1
            obtain ⟨gg,k1,k2⟩:=ih W hWm (hks W hWm) (undr t.form i d) S.2 (by omega) (by omega) (by omega) (by omega) (n'+12094627905543+1) [(r,.row 1 [.int .i64 S.2])] (fun k hk=>good_cons.2 ⟨by omega,lowI,good_nil⟩) (by omega) getO_hd
            obtain ⟨G1,e5,V5⟩:=sub_cnt (call:=callX (cF Try.prog) (LX (cF Try.prog))) (m:=n'+12094627905543) (q:=61) (v := (runM g W (undr t.form i d) S.2).1) hG5 (by omega) hc hci (by rw [callX_fn]; exact k1) k2
            rw [hreach] at e5
            generalize runM g W (undr t.form i d) S.2=X at e5 V5 ⊢
            rw [encT_eq X.1] at e5
            have gG1:∀ m,n'+5≤m→GoodAt m G1:=fun m hm=>V5.gd (show r < n'+5 by omega) (fun k hk=>H5.good k hk) m hm
            have hky1:∀ m,n'+5≤m→keysFrom m G1=[]:=fun m hm=>keys_low (gG1 m hm)
            have y36:getO G1 (n+36) = .row 6 ((S.1++List.replicate (t.kids.el.length - i) zeroT).map encT):=by rw [V5.get (by omega),getO_tl (by omega)]; exact z36
            have hS1:S.1.length=i:=by rw [← hSe,runMs_len,List.length_take]; omega
            have hli:i < (S.1++List.replicate (t.kids.el.length - i) zeroT).length:=by rw [List.length_append,List.length_replicate,hS1]; omega
            unfold l61_0
            simp (disch:=first|assumption|omega|(simp (disch:=first|assumption|omega) only [sB,reduceAdd,reduceLT,reduceLeDiff,reduceEqDiff,reduceMul,↓reduceIte];done)|fail) only [sA,↓reduceIte,reduceLT,reduceEqDiff,reduceAdd,reduceLeDiff,q1,q2,q3,q4,q8,q11,q45,q46,q47,c3,eW,zn,z27,hrd,hreach,hky,e5,hky1,y36,apartR_cons,iaddr_ms,store_tm]
            obtain ⟨hb2,H2,V2⟩:=Cnt.hp H5 V5 hr
            have hset : (S.1++List.replicate (t.kids.el.length - i) zeroT).set i X.1=S.1++[X.1]++List.replicate (t.kids.el.length - (i+1)) zeroT:=by
              rw [show t.kids.el.length - i = (t.kids.el.length - (i+1))+1 by omega,List.replicate_succ,List.set_append_right _ _ (by omega),hS1,Nat.sub_self]
              simp
            have yk:∀ q,q < n+36→q≠r→getO G1 q=getO G q:=fun q hq hqr=>by rw [V5.get hqr,getO_tl (by omega)]
            refine ⟨_,_,_,_,rfl,.inl ⟨rfl,by omega,⟨hb2,(H2.set (r:=n+36) (by omega) (fun k hk=>lowO_map (fun x=>low_flat (flatT x)))).mono (by omega),V.trans V2⟩,getO_set2 y36 ((yk n (by omega) (by omega)).trans zn) (by omega),getO_set2 y36 ((yk (n+1) (by omega) (by omega)).trans z1) (by omega),getO_set2 y36 ((yk (n+27) (by omega) (by omega)).trans z27) (by omega),?_,by simp +decide only [sG,q1],by simp +decide only [sG,q2],by simp +decide only [sG,q3],by simp +decide only [sG,q4],by simp +decide only [sG,q8],by simp +decide only [sG,q11],by simp +decide only [sG,q45],by simp +decide only [sG,q46],by simp +decide only [sG]⟩⟩
            rw [getO_set1 y36,hset])
          ⟨by omega,⟨h1,HI.mono (by omega),by rw [List.take_zero,runMs_nil]; exact Cnt.refl b1⟩,by rw [getO_tl (by omega),getO_tl (by omega),getO_tl (by omega),getO_tl (by omega),getO_hd],by rw [getO_tl (by omega),getO_tl (by omega),getO_tl (by omega),getO_hd],by rw [getO_tl (by omega),getO_hd],by rw [getO_hd,List.take_zero,runMs_nil,List.nil_append,Nat.sub_zero,hz6],by simp +decide only [sG],by simp +decide only [sG],by simp +decide only [sG],by simp +decide only [sG],by simp +decide only [sG],by simp +decide only [sG],by simp +decide only [sG],by simp +decide only [sG],by simp (disch:=first|assumption|omega|(simp (disch:=first|assumption|omega) only [sB,reduceAdd,reduceLT,reduceLeDiff,reduceEqDiff,reduceMul,↓reduceIte];done)|fail) only [sA,↓reduceIte,reduceLT,reduceEqDiff,reduceAdd,reduceLeDiff]⟩
        refine ⟨hbz,?_,U1.trans Vz⟩
        have hkl : (runMs g t.form 0 t.kids.el d (L - 1)).1.length=t.kids.el.length:=runMs_len g t.form d t.kids.el 0 (L - 1)
        generalize (runMs g t.form 0 t.kids.el d (L - 1)).1=ks at z36 hkl ⊢
        have eks:encT (bareT t ks) = .agg [.int .i64 t.form,.int .i64 bn,.bool bh,.str bs,slD 2 encL bl,slD 6 encT (Sl.app ks)]:=by rw [hbt]; exact encT_eq _
        rw [eks]
        have w2:∀ X,getO (setO G (n+1) X) (n+1)=X:=fun X=>getO_setO_same (by rw [z1]; simp)
        have B:∀ X,Bld 6 encT n ks (setO G (n+1) X) (.ms 6 (n+36) 0 t.kids.el.length false):=fun X=>by
          rw [← hkl]
          exact .inr ⟨n+36,by intro e; rw [e,List.length_nil] at hkl; omega,by omega,rfl,getO_set2 z1 z36 (by omega)⟩
        have hnz:=Hz.le
        have hnz2:n+37≤nz:=by
          have:=getO_low (Hz.good nz (Nat.le_refl _)) (show getO G (n+36) ≠ .none by rw [z36]; simp)
          omega
        have HH:Hp n hbz (nz+2) (setO G (n+1) (.row 6 [.agg [.int .i64 t.form,.int .i64 bn,.bool bh,.str bs,slD 2 encL bl,.ms 6 (n+36) 0 t.kids.el.length false]])) := (Hz.set (r:=n+1) (by omega) (fun k hk=>lowO_one (low_tms (by omega)))).mono (by omega)
        have F:=finishD_fz (n:=nz+2) (Fz.agg (.cons ((Fz.of1 (d := .int .i64 t.form) rfl).mono (show 1≤3 by omega)) (.cons ((Fz.of1 (d := .int .i64 bn) rfl).mono (show 1≤3 by omega)) (.cons ((Fz.of1 (d := .bool bh) rfl).mono (show 1≤3 by omega)) (.cons ((Fz.of1 (d := .str bs) rfl).mono (show 1≤3 by omega)) (.cons ((Fz.of1 (d:=slD 2 encL bl) flat1_slD).mono (show 1≤3 by omega)) (.cons (Fz.bld elemT (B _)) .nil))))))) (by omega) HH.leak
        simp (disch:=first|assumption|omega|(simp (disch:=first|assumption|omega) only [sB,reduceAdd,reduceLT,reduceLeDiff,reduceEqDiff,reduceMul,↓reduceIte];done)|fail) only [sA,↓reduceIte,reduceLT,reduceEqDiff,reduceAdd,reduceLeDiff,q8,q11,z27,z1,w2]
        rw [F,HH.drop]
end Go.Proofs.Ytpbpmpabndgeeaa
