/- The reference's Lift of a term. No condition but sizes. -/
import Derived.Test.YtdijijblccmfbaaVX
import Derived.Test.YtdijijblccmfbaaVF
import Derived.Test.YtdijijblccmfbaaNCF1
set_option linter.unusedSimpArgs false
set_option linter.unusedVariables false
namespace Go.Proofs.Ytdijijblccmfbaa
open Go
open Nat (reduceAdd reduceLT reduceLeDiff reduceEqDiff reduceMul)

theorem rBindsK (n:Nat) (h:Hps) (hg:Gd n h) (f:Int):callFn (LX (cFk kL Try.prog)) n h [.int .i64 f] (cFk kL Try.prog 95) = .ok (.bool (bindsN f)) n h:=by
  have hgn:=hg n (Nat.le_refl _)
  rw [f95_eq]; unfold c95; rw [callFn_eq (by rfl)]
  by_cases h3:f=3
  · subst h3; rw [show bindsN 3=true from rfl]; simp (disch:=first|assumption|omega|(simp (disch:=first|assumption|omega) only [sB,reduceAdd,reduceLT,reduceLeDiff,reduceEqDiff,reduceMul,↓reduceIte];done)|fail) only [sA,↓reduceIte,reduceLT,reduceEqDiff,reduceAdd,reduceLeDiff]
  by_cases h4:f=4
  · subst h4; rw [show bindsN 4=true from rfl]; simp (disch:=first|assumption|omega|(simp (disch:=first|assumption|omega) only [sB,reduceAdd,reduceLT,reduceLeDiff,reduceEqDiff,reduceMul,↓reduceIte];done)|fail) only [sA,↓reduceIte,reduceLT,reduceEqDiff,reduceAdd,reduceLeDiff]
  by_cases h6:f=6
  · subst h6; rw [show bindsN 6=true from rfl]; simp (disch:=first|assumption|omega|(simp (disch:=first|assumption|omega) only [sB,reduceAdd,reduceLT,reduceLeDiff,reduceEqDiff,reduceMul,↓reduceIte];done)|fail) only [sA,↓reduceIte,reduceLT,reduceEqDiff,reduceAdd,reduceLeDiff]
  have e:bindsN f=false:=by unfold bindsN; rw [decide_eq_false (by omega)]
  rw [e]
  simp (disch:=first|assumption|omega|(simp (disch:=first|assumption|omega) only [sB,reduceAdd,reduceLT,reduceLeDiff,reduceEqDiff,reduceMul,↓reduceIte];done)|fail) only [sA,↓reduceIte,reduceLT,reduceEqDiff,reduceAdd,reduceLeDiff,h3,h4,h6]
theorem ex_list {α β:Type} (l:List α) (P:Nat→α→β→Prop) (h:∀ i (hi:i < l.length),∃ u,P i l[i] u):∃ us:List β,us.length=l.length∧∀ i (hi:i < l.length) (hi':i < us.length),P i l[i] us[i] :=
  ⟨List.ofFn (fun i:Fin l.length=>Classical.choose (h i.1 i.2)),List.length_ofFn,fun i hi hi'=>by
    rw [List.getElem_ofFn]
    exact Classical.choose_spec (h i hi)⟩
theorem rlifts_of (b f a:Int):∀ (ks us:List Tm) (i0:Nat),us.length=ks.length → (∀ i (hi:i < ks.length) (hi':i < us.length),us[i].abs=rlift b ks[i].abs (undr f (i0+i) a))→us.map Tm.abs=rlifts b f i0 (ks.map Tm.abs) a
  | [],[],_,_,_=>by rw [List.map_nil,rlifts]
  | [],_::_,_,h,_=>by cases h
  | _::_,[],_,h,_=>by cases h
  | k::ks,u::us,i0,h,H=>by
    rw [List.map_cons,List.map_cons,rlifts]
    have h0:=H 0 (by simp) (by simp)
    have hr:=rlifts_of b f a ks us (i0+1) (by simpa using h) (fun i hi hi'=>by
      have:=H (i+1) (by simp [hi]) (by simp [hi'])
      rw [Nat.add_assoc,Nat.add_comm 1 i]
      simpa using this)
    rw [hr]
    congr 1
theorem size1_lift (b:Int):∀ t:Trm,sizeT1 t=true→∀ a,sizeT1 (rlift b t a)=true:=by
  refine Trm.ind ?_
  intro t ih h a
  obtain ⟨⟨⟨h1,h2⟩,h3⟩,h4⟩ := (size1_eq t).1 h
  obtain ⟨f,n,hd,nm,ls,ks⟩:=t
  rw [rlift]
  split
  · exact (size1_eq _).2 ⟨⟨⟨h1,h2⟩,h3⟩,h4⟩
  · refine (size1_eq _).2 ⟨⟨⟨h1,by show (rlifts b f 0 ks a).length≤_; rw [rlifts_len]; exact h2⟩,h3⟩,fun k hk=>?_⟩
    obtain ⟨k',a',hk',rfl⟩:=rlifts_mem b f ks 0 a k hk
    exact ih k' hk' (h4 k' hk') a'
set_option maxHeartbeats 8000000 in
theorem rlT {b:Int} (hb:0≤b∧b≤10000000):∀ t:Tm,slimT t.abs=true→∀ a:Int,0≤a→a+highT t.abs≤100000000→∃ u:Tm,u.abs=rlift b t.abs a∧∀ (n:Nat) (h:Hps),Gd n h→callFn (LX (cFk kL Try.prog)) n h [(D.agg [.int .i64 (t).form,.int .i64 (t).n,.bool (t).hid,.str (t).name,slD 2 encL (t).levels,slD 6 encT (t).kids]),.int .i64 a,.int .i64 b] (cFk kL Try.prog 62) = .ok (encT u) n h:=by
  refine Tm.ind ?_
  intro t ih hsl a ha0 ha
  obtain ⟨hk,hv,_,hks⟩:=slim_tm hsl
  have hhp:=highT_pos t.abs
  by_cases h1:t.form=1∧a≤t.n
  · refine ⟨.mk t.form (t.n+b) t.hid t.name t.levels t.kids.nil t.kids.full t.kids.el t.kids.sp,?_,fun n h hg=>?_⟩
    · rw [abs_eq t,rlift,if_pos h1,abs_eq]; rfl
    · have:=hv h1.1
      have hd:decide (a≤t.n)=true:=decide_eq_true h1.2
      have e:=encT_eq (.mk t.form (t.n+b) t.hid t.name t.levels t.kids.nil t.kids.full t.kids.el t.kids.sp)
      have fl:flat (encT (.mk t.form (t.n+b) t.hid t.name t.levels t.kids.nil t.kids.full t.kids.el t.kids.sp))=true:=flatT _
      rw [e] at fl ⊢
      obtain ⟨h1,h2⟩:=h1
      rw [f62_eq]; unfold c62; rw [callFn_eq (by rfl)]
      simp (disch:=first|assumption|omega|(simp (disch:=first|assumption|omega) only [sB,reduceAdd,reduceLT,reduceLeDiff,reduceEqDiff,reduceMul,↓reduceIte];done)|fail) only [sA,↓reduceIte,reduceLT,reduceEqDiff,reduceAdd,reduceLeDiff,h1,hd]
      have fl':flat (.agg [.int .i64 1,.int .i64 (t.n+b),.bool t.hid,.str t.name,slD 2 encL t.levels,slD 6 encT t.kids])=true:=by
        have fl2:=fl
        rw [show (Tm.mk t.form (t.n+b) t.hid t.name t.levels t.kids.nil t.kids.full t.kids.el t.kids.sp).form=t.form from rfl,h1] at fl2
        exact fl2
      have fin:=finish_flat (n:=n+19) fl' (((Hp.start hg).box (r:=n) (m:=n+1) (k:=6) (Nat.le_refl _) (by omega) fl').box (r:=n+1) (k:=6) (m:=n+19) (by omega) (by omega) fl')
      exact fin
  by_cases hkn:t.kids.el=[]
  · refine ⟨t,?_,fun n h hg=>?_⟩
    · rw [abs_eq t,rlift,if_neg h1,hkn,List.map_nil,rlifts]
    · have hlen:t.kids.el.length=0:=by rw [hkn]; rfl
      have fin:=fun m (hm:n+2≤m)=>finish_flat (n:=m) (flatTA t) ((((Hp.start hg).box (r:=n) (m:=n+1) (k:=6) (Nat.le_refl _) (by omega) (flatTA t)).box (r:=n+1) (m:=n+2) (k:=6) (by omega) (by omega) (flatTA t)).mono hm)
      rw [encT_eq]
      by_cases hf:t.form=1
      · have:=hv hf
        have hd:decide (a≤t.n)=false:=decide_eq_false (fun e=>h1 ⟨hf,e⟩)
        rw [hf] at fin
        rw [f62_eq]; unfold c62; rw [callFn_eq (by rfl)]
        simp (disch:=first|assumption|omega|(simp (disch:=first|assumption|omega) only [sB,reduceAdd,reduceLT,reduceLeDiff,reduceEqDiff,reduceMul,↓reduceIte];done)|fail) only [sA,↓reduceIte,reduceLT,reduceEqDiff,reduceAdd,reduceLeDiff,hf,hd,hlen]
        exact fin _ (by omega)
      · rw [f62_eq]; unfold c62; rw [callFn_eq (by rfl)]
        simp (disch:=first|assumption|omega|(simp (disch:=first|assumption|omega) only [sB,reduceAdd,reduceLT,reduceLeDiff,reduceEqDiff,reduceMul,↓reduceIte];done)|fail) only [sA,↓reduceIte,reduceLT,reduceEqDiff,reduceAdd,reduceLeDiff,hf,hlen]
        exact fin _ (by omega)
  obtain ⟨us,hul,hus⟩:=ex_list t.kids.el (fun i k (u:Tm)=>u.abs=rlift b k.abs (undr t.form i a)∧∀ (n:Nat) (h:Hps),Gd n h→callFn (LX (cFk kL Try.prog)) n h [(D.agg [.int .i64 (k).form,.int .i64 (k).n,.bool (k).hid,.str (k).name,slD 2 encL (k).levels,slD 6 encT (k).kids]),.int .i64 (undr t.form i a),.int .i64 b] (cFk kL Try.prog 62) = .ok (encT u) n h) (fun i hi=>by
    have hm:=List.getElem_mem hi
    have:=high_kid (t:=t) hm
    have:=undr_le t.form i a
    have:=undr_low t.form i a
    exact ih _ hm (hks _ hm) (undr t.form i a) (by omega) (by omega))
  refine ⟨.mk t.form t.n t.hid t.name t.levels true false us [],?_,fun n h hg=>?_⟩
  · rw [abs_eq t,rlift,if_neg h1,abs_eq]
    show Trm.mk t.form t.n t.hid t.name (t.levels.el.map SLev.lev) (us.map Tm.abs)=_
    rw [rlifts_of b t.form a t.kids.el us 0 hul (fun i hi hi'=>by rw [Nat.zero_add]; exact (hus i hi hi').1)]
  · have hne:¬ (t.kids.el.length=0):=fun e=>hkn (List.length_eq_zero_iff.1 e)
    have hlen:¬ (((t.kids.el.length:Nat):Int)=0):=by omega
    have cB:∀ m h,Gd m h→callFn (LX (cFk kL Try.prog)) m h [.int .i64 t.form] (cFk kL Try.prog 95) = .ok (.bool (bindsN t.form)) m h:=fun m h hg=>rBindsK m h hg t.form
    have H0:Hp n h (n+2) ((n+1,(Ob.row 6 [.agg [.int .i64 0,.int .i64 0,.bool false,.str [],.nils,.nils]])) :: (n,(Ob.row 6 [.agg [.int .i64 (t).form,.int .i64 (t).n,.bool (t).hid,.str (t).name,slD 2 encL (t).levels,slD 6 encT (t).kids]]))::h) := ((Hp.start hg).box (r:=n) (m:=n+1) (Nat.le_refl _) (by omega) (flatTA t)).box (r:=n+1) (m:=n+2) (k:=6) (d := (D.agg [.int .i64 0,.int .i64 0,.bool false,.str [],.nils,.nils])) (by omega) (by omega) rfl
    have S:∀ e n0 R,LX (cFk kL Try.prog) (.loop l62_0) e n0 ((n+1,(Ob.row 6 [.agg [.int .i64 0,.int .i64 0,.bool false,.str [],.nils,.nils]])) :: (n,(Ob.row 6 [.agg [.int .i64 (t).form,.int .i64 (t).n,.bool (t).hid,.str (t).name,slD 2 encL (t).levels,slD 6 encT (t).kids]]))::h)=R→n+2≤n0→get (po 1) e = .int .i64 a→get (po 2) e = .int .i64 b→get (po 3) e = .ptr n 0 0→get (po 6) e = .ptr (n+1) 0 0→get (po 7) e = .nils→get (po 8) e = .int .i64 0 →
        ∃ e2 n2 G d,R = .ok (.exit 0) e2 n2 G∧Hp n h n2 G∧n+2≤n2∧Bld 6 encT (n+2) us G d∧getO G n = (Ob.row 6 [.agg [.int .i64 (t).form,.int .i64 (t).n,.bool (t).hid,.str (t).name,slD 2 encL (t).levels,slD 6 encT (t).kids]])∧getO G (n+1) = (Ob.row 6 [.agg [.int .i64 0,.int .i64 0,.bool false,.str [],.nils,.nils]])∧get (po 3) e2 = .ptr n 0 0∧get (po 6) e2 = .ptr (n+1) 0 0∧get (po 7) e2=d:=by
      intro e n0 R hr p0 g1 g2 g3 g6 g7 g8
      obtain ⟨x,e2,n2,G,rfl,rfl,H2,p2,d,B2,z0,z1,q3,q6,q7⟩:=loop_up hr t.kids.el.length
        (fun i e n' G=>Hp n h n' G∧n+2≤n' ∧ (∃ d,Bld 6 encT (n+2) (us.take i) G d∧get (po 7) e=d)∧getO G n = (Ob.row 6 [.agg [.int .i64 (t).form,.int .i64 (t).n,.bool (t).hid,.str (t).name,slD 2 encL (t).levels,slD 6 encT (t).kids]])∧getO G (n+1) = (Ob.row 6 [.agg [.int .i64 0,.int .i64 0,.bool false,.str [],.nils,.nils]])∧get (po 1) e = .int .i64 a∧get (po 2) e = .int .i64 b∧get (po 3) e = .ptr n 0 0∧get (po 6) e = .ptr (n+1) 0 0∧get (po 8) e = .int .i64 (i:Nat))
        (fun x e n' G=>x = .exit 0∧Hp n h n' G∧n+2≤n'∧∃ d,Bld 6 encT (n+2) us G d∧getO G n = (Ob.row 6 [.agg [.int .i64 (t).form,.int .i64 (t).n,.bool (t).hid,.str (t).name,slD 2 encL (t).levels,slD 6 encT (t).kids]])∧getO G (n+1) = (Ob.row 6 [.agg [.int .i64 0,.int .i64 0,.bool false,.str [],.nils,.nils]])∧get (po 3) e = .ptr n 0 0∧get (po 6) e = .ptr (n+1) 0 0∧get (po 7) e=d)
        (by
          rintro e n' G ⟨H,p1,⟨d,B,g7⟩,z0,z1,g1,g2,g3,g6,g8⟩
          rw [← hul,List.take_length] at B
          unfold l62_0
          simp (disch:=first|assumption|omega|(simp (disch:=first|assumption|omega) only [sB,reduceAdd,reduceLT,reduceLeDiff,reduceEqDiff,reduceMul,↓reduceIte];done)|fail) only [sA,↓reduceIte,reduceLT,reduceEqDiff,reduceAdd,reduceLeDiff,g3,g8,z0]
          exact ⟨_,_,_,_,rfl,by simp,rfl,H.mono (by omega),by omega,d,B,z0,z1,by simp +decide only [sG,g3],by simp +decide only [sG,g6],by simp +decide only [sG,g7]⟩)
        (by
          rintro i e n' G hi ⟨H,p1,⟨d,B,g7⟩,z0,z1,g1,g2,g3,g6,g8⟩
          have hi':i < us.length:=by omega
          have c1 := (hus i hi hi').2
          have eW:encT t.kids.el[i] = (D.agg [.int .i64 (t.kids.el[i]).form,.int .i64 (t.kids.el[i]).n,.bool (t.kids.el[i]).hid,.str (t.kids.el[i]).name,slD 2 encL (t.kids.el[i]).levels,slD 6 encT (t.kids.el[i]).kids]):=encT_eq _
          have hG:∀ m,n'≤m→Gd m G:=fun m hm=>H.good' hm
          have hbo:=B.okD
          have hoe:okE 6 (encT us[i])=true:=elemT.ok _
          obtain ⟨D',K',A⟩:=app_bldx (b:=88) B H (by omega) p1 (fun m x=>low_flat (flatT x)) [us[i]] (by simp; omega)
          have a1:=fun m hm => (A m hm).1
          simp only [List.map_cons,List.map_nil] at a1
          rw [encT_eq us[i]] at c1 hoe
          simp only [encT_eq us[i]] at a1
          have hu:=undr_le t.form i a
          have hu2:=undr_low t.form i a
          by_cases i1:i=1
          · subst i1
            cases hbn:bindsN t.form with
            | true =>
              have eu:undr t.form 1 a=a+1:=by unfold undr; rw [if_pos ⟨rfl,hbn⟩]
              rw [eu] at c1
              unfold l62_0
              simp (disch:=first|assumption|omega|(simp (disch:=first|assumption|omega) only [sB,reduceAdd,reduceLT,reduceLeDiff,reduceEqDiff,reduceMul,↓reduceIte,hG,hi];done)|fail) only [sA,↓reduceIte,reduceLT,reduceEqDiff,reduceAdd,reduceLeDiff,g1,g2,g3,g6,g7,g8,z0,eW,cB,hbn,c1,hbo,a1,bsl_one,hoe,hG,hi]
              exact ⟨_,_,_,_,rfl,.inl ⟨rfl,((A (n'+29) (by omega)).2.2.1).mono (by omega),by omega,⟨_,by rw [← List.take_append_getElem hi']; exact (A (n'+29) (by omega)).2.1,by simp +decide only [sG]⟩,by rw [(A (n'+29) (by omega)).2.2.2.1 n (by omega)]; exact z0,by rw [(A (n'+29) (by omega)).2.2.2.1 (n+1) (by omega)]; exact z1,by simp +decide only [sG,g1],by simp +decide only [sG,g2],by simp +decide only [sG,g3],by simp +decide only [sG,g6],by simp +decide only [sG]; rfl⟩⟩
            | false =>
              have eu:undr t.form 1 a=a:=by unfold undr; rw [if_neg (by rw [hbn]; simp)]
              rw [eu] at c1
              unfold l62_0
              simp (disch:=first|assumption|omega|(simp (disch:=first|assumption|omega) only [sB,reduceAdd,reduceLT,reduceLeDiff,reduceEqDiff,reduceMul,↓reduceIte,hG,hi];done)|fail) only [sA,↓reduceIte,reduceLT,reduceEqDiff,reduceAdd,reduceLeDiff,g1,g2,g3,g6,g7,g8,z0,eW,cB,hbn,c1,hbo,a1,bsl_one,hoe,hG,hi]
              exact ⟨_,_,_,_,rfl,.inl ⟨rfl,((A (n'+26) (by omega)).2.2.1).mono (by omega),by omega,⟨_,by rw [← List.take_append_getElem hi']; exact (A (n'+26) (by omega)).2.1,by simp +decide only [sG]⟩,by rw [(A (n'+26) (by omega)).2.2.2.1 n (by omega)]; exact z0,by rw [(A (n'+26) (by omega)).2.2.2.1 (n+1) (by omega)]; exact z1,by simp +decide only [sG,g1],by simp +decide only [sG,g2],by simp +decide only [sG,g3],by simp +decide only [sG,g6],by simp +decide only [sG]; rfl⟩⟩
          · have eu:undr t.form i a=a:=by unfold undr; rw [if_neg (fun hh=>i1 hh.1)]
            rw [eu] at c1
            have i2:decide (((i:Nat):Int)=1)=false:=decide_eq_false (by omega)
            unfold l62_0
            simp (disch:=first|assumption|omega|(simp (disch:=first|assumption|omega) only [sB,reduceAdd,reduceLT,reduceLeDiff,reduceEqDiff,reduceMul,↓reduceIte,hG,hi];done)|fail) only [sA,↓reduceIte,reduceLT,reduceEqDiff,reduceAdd,reduceLeDiff,g1,g2,g3,g6,g7,g8,z0,eW,i2,c1,hbo,a1,bsl_one,hoe,hG,hi]
            exact ⟨_,_,_,_,rfl,.inl ⟨rfl,((A (n'+25) (by omega)).2.2.1).mono (by omega),by omega,⟨_,by rw [← List.take_append_getElem hi']; exact (A (n'+25) (by omega)).2.1,by simp +decide only [sG]⟩,by rw [(A (n'+25) (by omega)).2.2.2.1 n (by omega)]; exact z0,by rw [(A (n'+25) (by omega)).2.2.2.1 (n+1) (by omega)]; exact z1,by simp +decide only [sG,g1],by simp +decide only [sG,g2],by simp +decide only [sG,g3],by simp +decide only [sG,g6],by simp +decide only [sG]⟩⟩)
        ⟨H0.mono p0,p0,⟨.nils,.inl ⟨by simp,rfl⟩,g7⟩,by rw [getO_tl (by omega),getO_hd],getO_hd,g1,g2,g3,g6,g8⟩
      exact ⟨e2,n2,G,d,rfl,H2,p2,B2,z0,z1,q3,q6,q7⟩
    rw [encT_eq]
    show _=Rd.ok (.agg [.int .i64 t.form,.int .i64 t.n,.bool t.hid,.str t.name,slD 2 encL t.levels,slD 6 encT (Sl.app us)]) n h
    have hfin:∀ (f:Int) (G:Hps) (n2 m:Nat) (d:D),Hp n h n2 G→n+2≤n2→Bld 6 encT (n+2) us G d→n2≤m→finishD n m (setO (setO G n (.row 6 [.agg [.int .i64 f,.int .i64 t.n,.bool t.hid,.str t.name,slD 2 encL t.levels,d]])) (n+1) (.row 6 [.agg [.int .i64 f,.int .i64 t.n,.bool t.hid,.str t.name,slD 2 encL t.levels,d]])) (.agg [.int .i64 f,.int .i64 t.n,.bool t.hid,.str t.name,slD 2 encL t.levels,d]) = .ok (.agg [.int .i64 f,.int .i64 t.n,.bool t.hid,.str t.name,slD 2 encL t.levels,slD 6 encT (Sl.app us)]) n h:=by
      intro f G n2 m d H p B hm
      have hlow:∀ k,n2≤k→lowO k (.row 6 [.agg [.int .i64 f,.int .i64 t.n,.bool t.hid,.str t.name,slD 2 encL t.levels,d]]):=fun k hk=>lowO_one (low_agg6 ((plain1 18 flat1_slD).hasR k) (B.lowF (H.good k hk) 18))
      have HH := ((H.set (r:=n) (Nat.le_refl _) hlow).set (r:=n+1) (by omega) hlow).mono hm
      have B2:Bld 6 encT n us (setO (setO G n (.row 6 [.agg [.int .i64 f,.int .i64 t.n,.bool t.hid,.str t.name,slD 2 encL t.levels,d]])) (n+1) (.row 6 [.agg [.int .i64 f,.int .i64 t.n,.bool t.hid,.str t.name,slD 2 encL t.levels,d]])) d:=by
        rcases B with h1 | ⟨r,h1,h2,h3,h4⟩
        · exact .inl h1
        · exact .inr ⟨r,h1,by omega,h3,by rw [getO_ne (by omega),getO_ne (by omega)]; exact h4⟩
      have F:=finishD_fz (n:=m) (Fz.agg (.cons ((Fz.of1 (d := .int .i64 f) rfl).mono (show 1≤3 by omega)) (.cons ((Fz.of1 (d := .int .i64 t.n) rfl).mono (show 1≤3 by omega)) (.cons ((Fz.of1 (d := .bool t.hid) rfl).mono (show 1≤3 by omega)) (.cons ((Fz.of1 (d := .str t.name) rfl).mono (show 1≤3 by omega)) (.cons ((Fz.of1 (d:=slD 2 encL t.levels) flat1_slD).mono (show 1≤3 by omega)) (.cons (Fz.bld elemT B2) .nil))))))) (by omega) HH.leak
      rw [F,HH.drop]
    by_cases hf:t.form=1
    · have:=hv hf
      have hd:decide (a≤t.n)=false:=decide_eq_false (fun e=>h1 ⟨hf,e⟩)
      rw [hf] at S ⊢
      rw [f62_eq]; unfold c62; rw [callFn_eq (by rfl)]
      simp (disch:=first|assumption|omega|(simp (disch:=first|assumption|omega) only [sB,reduceAdd,reduceLT,reduceLeDiff,reduceEqDiff,reduceMul,↓reduceIte];done)|fail) only [sA,↓reduceIte,reduceLT,reduceEqDiff,reduceAdd,reduceLeDiff,hf,hd,hlen]
      generalize hR:LX (cFk kL Try.prog) (.loop l62_0) _ _ _=R
      obtain ⟨e2,n2,G,d,rfl,H2,p2,B2,z0,z1,q3,q6,q7⟩:=S _ _ _ hR (by omega) (by simp +decide only [sG]) (by simp +decide only [sG]) (by simp +decide only [sG]) (by simp +decide only [sG]) (by simp +decide only [sG]) (by simp +decide only [sG])
      clear hR S
      have hone:=B2.one
      have w1:∀ X,getO (setO G n X) n=X:=fun X=>getO_setO_same (by rw [z0]; simp)
      have w2:∀ X,getO (setO G n X) (n+1) = (Ob.row 6 [.agg [.int .i64 0,.int .i64 0,.bool false,.str [],.nils,.nils]]):=fun X=>by rw [getO_ne (by omega)]; exact z1
      have w3:∀ X Y,getO (setO (setO G n X) (n+1) Y) (n+1)=Y:=fun X Y=>getO_setO_same (by rw [w2]; simp)
      simp (disch:=first|assumption|omega|(simp (disch:=first|assumption|omega) only [sB,reduceAdd,reduceLT,reduceLeDiff,reduceEqDiff,reduceMul,↓reduceIte];done)|fail) only [sA,↓reduceIte,reduceLT,reduceEqDiff,reduceAdd,reduceLeDiff,q3,q6,q7,z0,z1,w1,w2,w3,hone]
      exact hfin 1 G n2 _ d H2 p2 B2 (by omega)
    · rw [f62_eq]; unfold c62; rw [callFn_eq (by rfl)]
      simp (disch:=first|assumption|omega|(simp (disch:=first|assumption|omega) only [sB,reduceAdd,reduceLT,reduceLeDiff,reduceEqDiff,reduceMul,↓reduceIte];done)|fail) only [sA,↓reduceIte,reduceLT,reduceEqDiff,reduceAdd,reduceLeDiff,hf,hlen]
      generalize hR:LX (cFk kL Try.prog) (.loop l62_0) _ _ _=R
      obtain ⟨e2,n2,G,d,rfl,H2,p2,B2,z0,z1,q3,q6,q7⟩:=S _ _ _ hR (by omega) (by simp +decide only [sG]) (by simp +decide only [sG]) (by simp +decide only [sG]) (by simp +decide only [sG]) (by simp +decide only [sG]) (by simp +decide only [sG])
      clear hR S
      have hone:=B2.one
      have w1:∀ X,getO (setO G n X) n=X:=fun X=>getO_setO_same (by rw [z0]; simp)
      have w2:∀ X,getO (setO G n X) (n+1) = (Ob.row 6 [.agg [.int .i64 0,.int .i64 0,.bool false,.str [],.nils,.nils]]):=fun X=>by rw [getO_ne (by omega)]; exact z1
      have w3:∀ X Y,getO (setO (setO G n X) (n+1) Y) (n+1)=Y:=fun X Y=>getO_setO_same (by rw [w2]; simp)
      simp (disch:=first|assumption|omega|(simp (disch:=first|assumption|omega) only [sB,reduceAdd,reduceLT,reduceLeDiff,reduceEqDiff,reduceMul,↓reduceIte];done)|fail) only [sA,↓reduceIte,reduceLT,reduceEqDiff,reduceAdd,reduceLeDiff,q3,q6,q7,z0,z1,w1,w2,w3,hone]
      exact hfin t.form G n2 _ d H2 p2 B2 (by omega)
end Go.Proofs.Ytdijijblccmfbaa
