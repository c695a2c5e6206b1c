/- Parameters compared; a constructor taken apart. No condition but sizes. -/
import Derived.Test.YtpbpmpabndgeeaaEC
set_option linter.unusedSimpArgs false
set_option linter.unusedVariables false
namespace Go.Proofs.Ytpbpmpabndgeeaa
open Go
open Nat (reduceAdd reduceLT reduceLeDiff reduceEqDiff reduceMul)

theorem Bld.keep {α:Type} {enc:α→D} {k n0:Nat} {l:List α} {h h':Hps} {d:D} (B:Bld k enc n0 l h d) (K:∀ r,d = .ms k r 0 l.length false→getO h' r=getO h r):Bld k enc n0 l h' d:=by
  rcases B with h1 | ⟨r,h1,h2,h3,h4⟩
  · exact .inl h1
  · exact .inr ⟨r,h1,h2,h3,by rw [K r h3]; exact h4⟩
set_option maxHeartbeats 8000000 in
theorem pSpine (t:Tm) (ht:formedT t.abs=true) (hs:sizeT t.abs≤100000) (n:Nat) (h:Hps) (hg:Gd n h):callFn (LX (cF Try.prog)) n h [(D.agg [.int .i64 (t).form,.int .i64 (t).n,.bool (t).hid,.str (t).name,slD 2 encL (t).levels,slD 6 encT (t).kids])] (cF Try.prog 47) = .ok (.tup [encT (spn t).1,slD 6 encT (Sl.app (spn t).2.1),slD 1 encB (Sl.app (spn t).2.2)]) n h:=by
  have hgn:=hg n (Nat.le_refl _)
  have H0:Hp n h (n+2) ((n+1,(Ob.row 6 [.agg [.int .i64 0,.int .i64 0,.bool false,.str [],.nils,.nils]])) :: (n,(Ob.row 6 [.agg [.int .i64 (t).form,.int .i64 (t).n,.bool (t).hid,.str (t).name,slD 2 encL (t).levels,slD 6 encT (t).kids]]))::h) := ((Hp.start hg).box (r:=n) (m:=n+1) (Nat.le_refl _) (by omega) (flatTA t)).box (r:=n+1) (m:=n+2) (k:=6) (d := (D.agg [.int .i64 0,.int .i64 0,.bool false,.str [],.nils,.nils])) (by omega) (by omega) rfl
  rw [f47_eq]; unfold c47; rw [callFn_eq (by rfl)]
  simp (disch:=first|assumption|omega|(simp (disch:=first|assumption|omega) only [sB,reduceAdd,reduceLT,reduceLeDiff,reduceEqDiff,reduceMul,↓reduceIte];done)|fail) only [sA,↓reduceIte,reduceLT,reduceEqDiff,reduceAdd,reduceLeDiff]
  generalize hr:LX (cF Try.prog) (.loop l47_0) _ _ _=R
  obtain ⟨x,ez,nz,G,rfl,rfl,Hz,p1,hd,A,B,dA,dB,BA,BB,z0,z1,hsp,hAl,hBl,q1,q2,q5,q6⟩:=loop_at hr
    (fun j e n' G=>Hp n h n' G∧n+2≤n'∧∃ (cur:Tm) (A:List Tm) (B:List Bool) (dA dB:D),sizeT cur.abs=j∧formedT cur.abs=true∧Bld 6 encT (n+2) A G dA∧Bld 1 encB (n+2) B G dB∧getO G n = (Ob.row 6 [.agg [.int .i64 (cur).form,.int .i64 (cur).n,.bool (cur).hid,.str (cur).name,slD 2 encL (cur).levels,slD 6 encT (cur).kids]])∧getO G (n+1) = (Ob.row 6 [.agg [.int .i64 0,.int .i64 0,.bool false,.str [],.nils,.nils]]) ∧
      spn t = ((spn cur).1,(spn cur).2.1++A.reverse,(spn cur).2.2++B.reverse)∧A.length+j≤sizeT t.abs∧B.length+j≤sizeT t.abs∧get (po 1) e = .ptr n 0 0∧get (po 2) e = .ptr (n+1) 0 0∧get (po 5) e=dA∧get (po 6) e=dB)
    (fun x e n' G=>x = .exit 0∧Hp n h n' G∧n+2≤n'∧∃ (hd:Tm) (A:List Tm) (B:List Bool) (dA dB:D),Bld 6 encT (n+2) A G dA∧Bld 1 encB (n+2) B G dB∧getO G n = (Ob.row 6 [.agg [.int .i64 (hd).form,.int .i64 (hd).n,.bool (hd).hid,.str (hd).name,slD 2 encL (hd).levels,slD 6 encT (hd).kids]])∧getO G (n+1) = (Ob.row 6 [.agg [.int .i64 0,.int .i64 0,.bool false,.str [],.nils,.nils]]) ∧
      spn t = (hd,A.reverse,B.reverse)∧A.length≤100000∧B.length≤100000∧get (po 1) e = .ptr n 0 0∧get (po 2) e = .ptr (n+1) 0 0∧get (po 5) e=dA∧get (po 6) e=dB)
    (by
      rintro j e n' G ⟨H,p1,cur,A,B,dA,dB,hj,hcf,BA,BB,z0,z1,hsp,hAl,hBl,q1,q2,q5,q6⟩
      unfold l47_0
      by_cases hf:cur.form=5
      · obtain ⟨k0,k1,hk,hk0,hsz⟩:=kids_two hf hcf
        obtain ⟨D1,K1,A1⟩:=app_bldz (b:=88) BA H (by omega) p1 (fun m x=>low_flat (flatT x)) [k1] (by simp; omega)
        have a1:=fun m hm => (A1 m hm).1
        simp only [List.map_cons,List.map_nil,encT_eq k1] at a1
        obtain ⟨_,BA1,H1,kp1,_⟩:=A1 (n'+6597069766659) (by omega)
        have hoAB:=offA BA BB
        have BB1:Bld 1 encB (n+2) B (K1 (n'+6597069766659)) dB:=BB.keep (fun r e=>by
          have hlt:r < n':=by
            rcases BB with ⟨_,e2⟩ | ⟨p,_,_,e2,gB⟩
            · rw [e2] at e; cases e
            · rw [e2] at e; injection e with _ e _ _ _
              rw [← e]; exact getO_low (H.good n' (Nat.le_refl _)) (by rw [gB]; exact fun h=>by cases h)
          exact (kp1 r hlt (hoAB.1 r e)).1)
        have z01:getO (K1 (n'+6597069766659)) n = (Ob.row 6 [.agg [.int .i64 (cur).form,.int .i64 (cur).n,.bool (cur).hid,.str (cur).name,slD 2 encL (cur).levels,slD 6 encT (cur).kids]]):=by rw [(kp1 n (by omega) (BA.off' (by omega))).1]; exact z0
        have z11:getO (K1 (n'+6597069766659)) (n+1) = (Ob.row 6 [.agg [.int .i64 0,.int .i64 0,.bool false,.str [],.nils,.nils]]):=by rw [(kp1 (n+1) (by omega) (BA.off' (by omega))).1]; exact z1
        obtain ⟨D2,K2,A2⟩:=app_bldz (b:=1) BB1 H1 (by omega) (by omega) (fun m x=>low_flat rfl) [cur.hid] (by simp; omega)
        have a2:=fun m hm => (A2 m hm).1
        simp only [List.map_cons,List.map_nil,encB] at a2
        have eK:slD 6 encT cur.kids=slD 6 encT cur.kids:=rfl
        have i0:0 < cur.kids.el.length:=by rw [hk]; simp
        have i1:1 < cur.kids.el.length:=by rw [hk]; simp
        have e0:∀ hh,encT (cur.kids.el[0]'hh) = (D.agg [.int .i64 (k0).form,.int .i64 (k0).n,.bool (k0).hid,.str (k0).name,slD 2 encL (k0).levels,slD 6 encT (k0).kids]):=fun hh=>by simp only [hk]; exact encT_eq _
        have e1:∀ hh,encT (cur.kids.el[1]'hh) = (D.agg [.int .i64 (k1).form,.int .i64 (k1).n,.bool (k1).hid,.str (k1).name,slD 2 encL (k1).levels,slD 6 encT (k1).kids]):=fun hh=>by simp only [hk]; exact encT_eq _
        have hbA:=BA.okD
        have hbB:=BB.okD
        have hko:∀ m,n'≤m→keysFrom m G=[]:=fun m hm=>keys_low (H.good m hm)
        rw [hf] at z0 z01
        have hmA:∀ q,(q < n+2∨n'≤q)→memN q (refO dA)=false:=fun q hq=>by
          rcases BA with ⟨_,rfl⟩ | ⟨r,_,h2,rfl,gA⟩
          · rfl
          · have:=getO_low (H.good n' (Nat.le_refl _)) (show getO G r ≠ .none by rw [gA]; exact fun h=>by cases h)
            show memN q [r]=false
            rw [memN_cons,decide_eq_false (by omega)]; rfl
        obtain ⟨_,BB2,H2,kp2,_⟩:=A2 (n'+12094627905539) (by omega)
        have hoAB1:=offA BA1 BB1
        have BA2:Bld 6 encT (n+2) (A++[k1]) (K2 (n'+12094627905539)) (D1 (n'+6597069766659)):=BA1.keep (fun r e=>by
          have hlt:r < n'+6597069766660:=by
            rcases BA1 with ⟨_,e2⟩ | ⟨p,_,_,e2,gA⟩
            · rw [e2] at e; cases e
            · rw [e2] at e; injection e with _ e _ _ _
              rw [← e]; exact getO_low (H1.good _ (Nat.le_refl _)) (by rw [gA]; exact fun h=>by cases h)
          exact (kp2 r hlt (hoAB1.2 r e)).1)
        have z02:getO (K2 (n'+12094627905539)) n = .row 6 [.agg [.int .i64 5,.int .i64 cur.n,.bool cur.hid,.str cur.name,slD 2 encL cur.levels,slD 6 encT cur.kids]]:=by rw [(kp2 n (by omega) (BB1.off' (by omega))).1]; exact z01
        have z12:getO (K2 (n'+12094627905539)) (n+1) = (Ob.row 6 [.agg [.int .i64 0,.int .i64 0,.bool false,.str [],.nils,.nils]]):=by rw [(kp2 (n+1) (by omega) (BB1.off' (by omega))).1]; exact z11
        simp (disch:=first|assumption|omega|(simp (disch:=first|assumption|omega) only [sB,reduceAdd,reduceLT,reduceLeDiff,reduceEqDiff,reduceMul,↓reduceIte,i0,i1];done)|fail) only [sA,↓reduceIte,reduceLT,reduceEqDiff,reduceAdd,reduceLeDiff,q1,q2,q5,q6,z0,z01,z02,hf,e0,e1,a1,a2,hbA,hbB,hko,hmA,i0,i1]
        refine ⟨_,_,_,_,rfl,.inl ⟨rfl,sizeT k0.abs,by omega,(H2.set (r:=n) (by omega) (fun k _=>lowO_one (low_flat (flatTA k0)))).mono (by omega),by omega,k0,A++[k1],B++[cur.hid],_,_,rfl,hk0,BA2.set z02 (by omega),BB2.set z02 (by omega),getO_set1 z02,getO_set2 z02 z12 (by omega),?_,by rw [List.length_append,List.length_singleton]; omega,by rw [List.length_append,List.length_singleton]; omega,by simp +decide only [sG,q1],by simp +decide only [sG,q2],by simp +decide only [sG],by simp +decide only [sG]⟩⟩
        rw [hsp,spn_app hf hk,List.reverse_append,List.reverse_append]
        simp
      · simp (disch:=first|assumption|omega|(simp (disch:=first|assumption|omega) only [sB,reduceAdd,reduceLT,reduceLeDiff,reduceEqDiff,reduceMul,↓reduceIte];done)|fail) only [sA,↓reduceIte,reduceLT,reduceEqDiff,reduceAdd,reduceLeDiff,q1,z0,hf]
        rw [spn_head hf] at hsp
        exact ⟨_,_,_,_,rfl,.inr ⟨by simp,rfl,H.mono (by omega),by omega,cur,A,B,dA,dB,BA,BB,z0,z1,by simpa using hsp,by omega,by omega,by simp +decide only [sG,q1],by simp +decide only [sG,q2],by simp +decide only [sG,q5],by simp +decide only [sG,q6]⟩⟩)
    (sizeT t.abs) ⟨H0.mono (by omega),by omega,t,[],[],.nils,.nils,rfl,ht,.inl ⟨rfl,rfl⟩,.inl ⟨rfl,rfl⟩,by rw [getO_tl (by omega),getO_hd],getO_hd,by simp,by simp,by simp,by simp +decide only [sG],by simp +decide only [sG],by simp +decide only [sG],by simp +decide only [sG]⟩
  obtain ⟨G1,r1,BA1,H1,kp1⟩:=rev_bldA BA Hz (by omega) (by omega)
  have hoAB:=offA BA BB
  have BB1:Bld 1 encB (n+2) B G1 dB:=BB.keep (fun r e=>kp1 r (hoAB.1 r e))
  obtain ⟨G2,r2,BB2,H2,kp2⟩:=rev_bldB BB1 H1 (by omega) (by omega)
  have hoAB1:=offA BA1 BB1
  have BA2:Bld 6 encT (n+2) A.reverse G2 dA:=BA1.keep (fun r e=>kp2 r (hoAB1.2 r e))
  have y0:getO G2 n = (Ob.row 6 [.agg [.int .i64 (hd).form,.int .i64 (hd).n,.bool (hd).hid,.str (hd).name,slD 2 encL (hd).levels,slD 6 encT (hd).kids]]):=by rw [kp2 n (BB1.off' (by omega)),kp1 n (BA.off' (by omega))]; exact z0
  have y1:getO G2 (n+1) = (Ob.row 6 [.agg [.int .i64 0,.int .i64 0,.bool false,.str [],.nils,.nils]]):=by rw [kp2 (n+1) (BB1.off' (by omega)),kp1 (n+1) (BA.off' (by omega))]; exact z1
  have w:∀ X,getO (setO G2 (n+1) X) (n+1)=X:=fun X=>getO_setO_same (by rw [y1]; simp)
  have hA2:=BA2.okD
  have hB2:=BB2.okD
  rw [hsp]
  have HH:Hp n h (nz+12) (setO G2 (n+1) (Ob.row 6 [.agg [.int .i64 (hd).form,.int .i64 (hd).n,.bool (hd).hid,.str (hd).name,slD 2 encL (hd).levels,slD 6 encT (hd).kids]])) := (H2.set (r:=n+1) (by omega) (fun k _=>lowO_one (low_flat (flatTA hd)))).mono (by omega)
  rw [encT_eq]
  simp (disch:=first|assumption|omega|(simp (disch:=first|assumption|omega) only [sB,reduceAdd,reduceLT,reduceLeDiff,reduceEqDiff,reduceMul,↓reduceIte];done)|fail) only [sA,↓reduceIte,reduceLT,reduceEqDiff,reduceAdd,reduceLeDiff,q1,q2,q5,q6,r1,r2,y0,y1,w,hA2,hB2]
  rw [finishD_fz (Fz.tup (.cons ((Fz.of2 (by rw [← encT_eq]; exact elemT.flat hd)).mono (show 2≤3 by omega)) (.cons (Fz.bld elemT ((BA2.set y1 (by omega)).wide (by omega))) (.cons (Fz.bld elemB ((BB2.set y1 (by omega)).wide (by omega))) .nil)))) (by omega) HH.leak,HH.drop]

structure Fa where
  nm:List Nat
  typ:Tm
  P:Nat
  cs:List (List Nat×Tm)
  Ps:Sl Tm
  Is:Sl Tm
  so:SLev
noncomputable def encC (c:List Nat×Tm):D := .agg [.str c.1,.int .i64 c.2.form,.int .i64 c.2.n,.bool c.2.hid,.str c.2.name,slD 2 encL c.2.levels,slD 6 encT c.2.kids]
structure Fat (F:Fa) (f r n:Nat) (h:Hps):Prop where
  fl:f < n
  rl:r < n
  box:getO h f = (Ob.row 21 [.agg [.int .i64 3,.str (F).nm,.int .i64 0,.int .i64 (F).typ.form,.int .i64 (F).typ.n,.bool (F).typ.hid,.str (F).typ.name,slD 2 encL (F).typ.levels,slD 6 encT (F).typ.kids,.int .i64 0,.int .i64 0,.bool false,.str [],.nils,.nils,.int .i64 ((F).P:Nat),.ms 7 (r) 0 (F).cs.length false,slD 6 encT (F).Ps,slD 6 encT (F).Is,.int .i64 (F).so.n,slD 2 encV (F).so.vs]])
  row:getO h r = .row 7 (F.cs.map encC)
theorem Fat.hp {F:Fa} {f r n n':Nat} {h h':Hps} (A:Fat F f r n h) (H:Hp n h n' h'):Fat F f r n' h' :=
  ⟨by have:=A.fl; have:=H.le; omega,by have:=A.rl; have:=H.le; omega,by rw [H.get A.fl]; exact A.box,by rw [H.get A.rl]; exact A.row⟩
theorem tr_nilck {e:Tr} {n:Nat} {x:Opd} {h h':Hps}:touchR e n (.nilck x) h h'=[]:=eqOf rfl
theorem tr_slice {e:Tr} {n k:Nat} {x:Opd} {lo hi mx:Option Opd} {h h':Hps}:touchR e n (.slice k x lo hi mx) h h'=[]:=eqOf rfl
theorem lev_same (n:Nat) (h:Hps) (hg:Gd n h):callFn (LX (cF Try.prog)) n h [.nils,.nils] (cF Try.prog 70) = .ok (.bool true) n h:=by
  have hgn:=hg n (Nat.le_refl _)
  rw [f70_eq]; unfold c70; rw [callFn_eq (by rfl)]
  simp (disch:=first|assumption|omega|(simp (disch:=first|assumption|omega) only [sB,reduceAdd,reduceLT,reduceLeDiff,reduceEqDiff,reduceMul,↓reduceIte];done)|fail) only [sA,↓reduceIte,reduceLT,reduceEqDiff,reduceAdd,reduceLeDiff]
  rw [LX_loop]
  unfold l70_0
  simp (disch:=first|assumption|omega|(simp (disch:=first|assumption|omega) only [sB,reduceAdd,reduceLT,reduceLeDiff,reduceEqDiff,reduceMul,↓reduceIte];done)|fail) only [sA,↓reduceIte,reduceLT,reduceEqDiff,reduceAdd,reduceLeDiff]
set_option maxHeartbeats 8000000 in
theorem pItself {F:Fa} {f r n:Nat} {h:Hps} (hg:Gd n h) (A:Fat F f r n h) (t:Tm) (ht:formedT t.abs=true) (hs:sizeT t.abs≤100000) (out:Int) (ho:0≤out∧out≤1000000)
    (h1 : (spn t).1.form=10) (h2 : (spn t).1.name=F.nm) (h3:slD 2 encL (spn t).1.levels = .nils) (h4 : (spn t).2.1.length=F.Ps.el.length+F.Is.el.length) (hl:F.Ps.el.length≤1000∧F.Is.el.length≤1000)
    (h5:∀ i,i < F.Ps.el.length→∃ a,(spn t).2.1[i]? = some a∧a.form=1∧a.n=out+F.Ps.el.length - 1 - i) :
    callFn (LX (cF Try.prog)) n h [.ptr f 0 0,(D.agg [.int .i64 (t).form,.int .i64 (t).n,.bool (t).hid,.str (t).name,slD 2 encL (t).levels,slD 6 encT (t).kids]),.int .i64 out] (cF Try.prog 44) = .ok (.tup [slD 6 encT ((Sl.app (spn t).2.1).cut F.Ps.el.length (F.Ps.el.length+F.Is.el.length)),.bool true]) n h:=by
  have hgn:=hg n (Nat.le_refl _)
  have hG:∀ m,n≤m→Gd m h:=fun m hm=>hg.mono hm
  have c1:∀ m h,Gd m h→callFn (LX (cF Try.prog)) m h [(D.agg [.int .i64 (t).form,.int .i64 (t).n,.bool (t).hid,.str (t).name,slD 2 encL (t).levels,slD 6 encT (t).kids])] (cF Try.prog 47) = .ok (.tup [encT (spn t).1,slD 6 encT (Sl.app (spn t).2.1),slD 1 encB (Sl.app (spn t).2.2)]) m h:=fun m h hg=>pSpine t ht hs m h hg
  have c2:∀ m h,Gd m h→callFn (LX (cF Try.prog)) m h [slD 2 encL (spn t).1.levels,.nils] (cF Try.prog 70) = .ok (.bool true) m h:=fun m h hg=>by rw [h3]; exact lev_same m h hg
  have c3:=pOwn
  have z0:=A.box
  have hf:=A.fl
  generalize hX : (spn t).1=X at h1 h2 h3 c1 c2
  generalize hL : (spn t).2.1=L at h4 h5 c1
  generalize hR:Sl.app (spn t).2.2=R at c1
  rw [encT_eq,h1,h2] at c1
  have H0:Hp n h (n+1) ((n,(Ob.row 6 [.agg [.int .i64 (t).form,.int .i64 (t).n,.bool (t).hid,.str (t).name,slD 2 encL (t).levels,slD 6 encT (t).kids]]))::h) := (Hp.start hg).box (r:=n) (m:=n+1) (Nat.le_refl _) (by omega) (flatTA t)
  rw [f44_eq]; unfold c44; rw [callFn_eq (by rfl)]
  have hP:F.Ps.el.length≤L.length:=by omega
  have sl1:∀ m g,slcX m g 6 encT (Sl.app L) (.int .i64 0) (.int .i64 (F.Ps.el.length:Nat)) = .ok (slD 6 encT ((Sl.app L).cut 0 F.Ps.el.length)) m g:=fun m g=>by
    show (if 0≤F.Ps.el.length∧F.Ps.el.length≤L.length+0 then Rd.ok (slD 6 encT ((Sl.app L).cut 0 F.Ps.el.length)) m g else .bad)=_
    rw [if_pos ⟨Nat.zero_le _,hP⟩]
  have sl2:∀ m g,slcX m g 6 encT (Sl.app L) (.int .i64 (F.Ps.el.length:Nat)) (.int .i64 (L.length:Nat)) = .ok (slD 6 encT ((Sl.app L).cut F.Ps.el.length L.length)) m g:=fun m g=>by
    show (if F.Ps.el.length≤L.length∧L.length≤L.length+0 then Rd.ok (slD 6 encT ((Sl.app L).cut F.Ps.el.length L.length)) m g else .bad)=_
    rw [if_pos ⟨hP,Nat.le_refl _⟩]
  have ec : ((Sl.app L).cut 0 F.Ps.el.length).el=L.take F.Ps.el.length:=by simp [Sl.cut,Sl.app]
  have ecl : ((Sl.app L).cut 0 F.Ps.el.length).el.length=F.Ps.el.length:=by rw [ec,List.length_take]; omega
  have SV:=Sv.slD (k:=6) (n:=n) (h:=h) (s := (Sl.app L).cut 0 F.Ps.el.length) encA
  rw [← h4]
  generalize hV : (Sl.app L).cut 0 F.Ps.el.length=V at sl1 ec ecl SV
  generalize hW : (Sl.app L).cut F.Ps.el.length L.length=W at sl2
  have H1:Hp n h (n+11) ((n+10,.row 6 [.agg [.int .i64 10,.int .i64 X.n,.bool X.hid,.str F.nm,slD 2 encL X.levels,slD 6 encT X.kids]]) :: (n,(Ob.row 6 [.agg [.int .i64 (t).form,.int .i64 (t).n,.bool (t).hid,.str (t).name,slD 2 encL (t).levels,slD 6 encT (t).kids]]))::h):=H0.box (r:=n+10) (m:=n+11) (by omega) (by omega) (flatTA (.mk 10 X.n X.hid F.nm X.levels X.kids.nil X.kids.full X.kids.el X.kids.sp))
  have h4' : (F.Ps.el.length:Int)+F.Is.el.length = (L.length:Nat):=by omega
  simp (disch:=first|assumption|omega|(simp (disch:=first|assumption|omega) only [sB,reduceAdd,reduceLT,reduceLeDiff,reduceEqDiff,reduceMul,↓reduceIte,hG,gd_tm,gd_tmf,gd_nil,getO_tl];done)|fail) only [sA,↓reduceIte,reduceLT,reduceEqDiff,reduceAdd,reduceLeDiff,z0,c1,c2,c3,str_neq,tr_nilck,keys_gd,sl1,ecl,hG,gd_tm,gd_tmf,gd_nil,getO_tl]
  generalize hr:LX (cF Try.prog) (.loop l44_0) _ _ _=r
  obtain ⟨x,e2,n2,h2,rfl,rfl,H2,q9,q11⟩:=loop_up hr F.Ps.el.length
    (fun i e n' h'=>Hp n h n' h'∧get (po 2) e = .int .i64 out∧get (po 9) e=slD 6 encT (Sl.app L)∧get (po 11) e = .int .i64 (F.Ps.el.length:Nat)∧get (po 64) e=slD 6 encT V∧get (po 65) e = .int .i64 (F.Ps.el.length:Nat)∧get (po 66) e = .int .i64 (i:Nat))
    (fun x e n' h'=>x = .exit 0∧Hp n h n' h'∧get (po 9) e=slD 6 encT (Sl.app L)∧get (po 11) e = .int .i64 (F.Ps.el.length:Nat))
    (by
      rintro e n' h' ⟨H,g2,g9,g11,g64,g65,g66⟩
      unfold l44_0
      simp (disch:=first|assumption|omega|(simp (disch:=first|assumption|omega) only [sB,reduceAdd,reduceLT,reduceLeDiff,reduceEqDiff,reduceMul,↓reduceIte];done)|fail) only [sA,↓reduceIte,reduceLT,reduceEqDiff,reduceAdd,reduceLeDiff,g64,g65,g66]
      exact ⟨_,_,_,_,rfl,by simp,rfl,H.mono (by omega),by simp +decide only [sG,g9],by simp +decide only [sG,g11]⟩)
    (by
      rintro i e n' h' hi ⟨H,g2,g9,g11,g64,g65,g66⟩
      obtain ⟨a,a1,a2,a3⟩:=h5 i hi
      have hiV:i < V.el.length:=by omega
      have eV:V.el[i]=a:=by
        have:V.el[i]? = some a:=by rw [ec,List.getElem?_take,if_pos hi,a1]
        rw [List.getElem?_eq_getElem hiV] at this
        exact Option.some.inj this
      have eA:∀ hh,encT (V.el[i]'hh) = .agg [.int .i64 1,.int .i64 (out+F.Ps.el.length - 1 - i),.bool a.hid,.str a.name,slD 2 encL a.levels,slD 6 encT a.kids]:=fun hh=>by rw [eV,encT_eq,a2,a3]
      unfold l44_0
      simp (disch:=first|assumption|omega|(simp (disch:=first|assumption|omega) only [sB,reduceAdd,reduceLT,reduceLeDiff,reduceEqDiff,reduceMul,↓reduceIte,hiV];done)|fail) only [sA,↓reduceIte,reduceLT,reduceEqDiff,reduceAdd,reduceLeDiff,g2,g9,g11,g64,g65,g66,eA,hiV]
      exact ⟨_,_,_,_,rfl,.inl ⟨rfl,(H.box (r:=n'+4) (m:=n'+5) (by omega) (by omega) (flatTA (.mk 1 (out+F.Ps.el.length - 1 - i) a.hid a.name a.levels a.kids.nil a.kids.full a.kids.el a.kids.sp))).mono (by omega),by simp +decide only [sG,g2],by simp +decide only [sG,g9],by simp +decide only [sG,g11],by simp +decide only [sG,g64],by simp +decide only [sG,g65],by simp +decide only [sG]⟩⟩)
    ⟨H1.mono (by omega),by simp +decide only [sG],by simp +decide only [sG],by simp +decide only [sG],by simp +decide only [sG],by simp +decide only [sG],by simp (disch:=first|assumption|omega|(simp (disch:=first|assumption|omega) only [sB,reduceAdd,reduceLT,reduceLeDiff,reduceEqDiff,reduceMul,↓reduceIte];done)|fail) only [sA,↓reduceIte,reduceLT,reduceEqDiff,reduceAdd,reduceLeDiff]⟩
  simp (disch:=first|assumption|omega|(simp (disch:=first|assumption|omega) only [sB,reduceAdd,reduceLT,reduceLeDiff,reduceEqDiff,reduceMul,↓reduceIte];done)|fail) only [sA,↓reduceIte,reduceLT,reduceEqDiff,reduceAdd,reduceLeDiff,q9,q11,sl2]
  exact finish_flat (by simp [flat_tup,flat2_slD,flat2_bool]) (H2.mono (by omega))
set_option maxHeartbeats 8000000 in
theorem pItselfNo {F:Fa} {f r n:Nat} {h:Hps} (hg:Gd n h) (A:Fat F f r n h) (t:Tm) (ht:formedT t.abs=true) (hs:sizeT t.abs≤100000) (out:Int) (h1 : (spn t).1.form≠10) :
    callFn (LX (cF Try.prog)) n h [.ptr f 0 0,(D.agg [.int .i64 (t).form,.int .i64 (t).n,.bool (t).hid,.str (t).name,slD 2 encL (t).levels,slD 6 encT (t).kids]),.int .i64 out] (cF Try.prog 44) = .ok (.tup [.nils,.bool false]) n h:=by
  have hgn:=hg n (Nat.le_refl _)
  have hG:∀ m,n≤m→Gd m h:=fun m hm=>hg.mono hm
  have c1:∀ m h,Gd m h→callFn (LX (cF Try.prog)) m h [(D.agg [.int .i64 (t).form,.int .i64 (t).n,.bool (t).hid,.str (t).name,slD 2 encL (t).levels,slD 6 encT (t).kids])] (cF Try.prog 47) = .ok (.tup [encT (spn t).1,slD 6 encT (Sl.app (spn t).2.1),slD 1 encB (Sl.app (spn t).2.2)]) m h:=fun m h hg=>pSpine t ht hs m h hg
  have z0:=A.box
  have hf:=A.fl
  generalize hX : (spn t).1=X at h1 c1
  generalize hL:Sl.app (spn t).2.1=L at c1
  generalize hR:Sl.app (spn t).2.2=R at c1
  rw [encT_eq] at c1
  rw [f44_eq]; unfold c44; rw [callFn_eq (by rfl)]
  simp (disch:=first|assumption|omega|(simp (disch:=first|assumption|omega) only [sB,reduceAdd,reduceLT,reduceLeDiff,reduceEqDiff,reduceMul,↓reduceIte,hG,gd_tm,gd_tmf,gd_nil,getO_tl];done)|fail) only [sA,↓reduceIte,reduceLT,reduceEqDiff,reduceAdd,reduceLeDiff,z0,c1,h1,str_neq,tr_nilck,keys_gd,hG,gd_tm,gd_tmf,gd_nil,getO_tl]
theorem pRecur {F:Fa} {f r n:Nat} {h:Hps} (hg:Gd n h) (A:Fat F f r n h) (t:Tm) (ht:formedT t.abs=true) (hs:sizeT t.abs≤100000) (out:Int) (ho:0≤out∧out≤1000000) (hz : (strp t).1=[])
    (d:D) (b:Bool) (hd:flat2 d=true) (ho1:one d=true) (hi:∀ m h,Gd m h→Fat F f r m h→callFn (LX (cF Try.prog)) m h [.ptr f 0 0,(D.agg [.int .i64 ((strp t).2).form,.int .i64 ((strp t).2).n,.bool ((strp t).2).hid,.str ((strp t).2).name,slD 2 encL ((strp t).2).levels,slD 6 encT ((strp t).2).kids]),.int .i64 out] (cF Try.prog 44) = .ok (.tup [d,.bool b]) m h) :
    callFn (LX (cF Try.prog)) n h [.ptr f 0 0,(D.agg [.int .i64 (t).form,.int .i64 (t).n,.bool (t).hid,.str (t).name,slD 2 encL (t).levels,slD 6 encT (t).kids]),.int .i64 out] (cF Try.prog 45) = .ok (.tup [.nils,d,.bool b]) n h:=by
  have hgn:=hg n (Nat.le_refl _)
  have hG:∀ m,n≤m→Gd m h:=fun m hm=>hg.mono hm
  have c1:∀ m h,Gd m h→callFn (LX (cF Try.prog)) m h [(D.agg [.int .i64 (t).form,.int .i64 (t).n,.bool (t).hid,.str (t).name,slD 2 encL (t).levels,slD 6 encT (t).kids])] (cF Try.prog 42) = .ok (.tup [.nils,encT (strp t).2]) m h:=fun m h hg=>by
    have:=pStrip t ht hs m h hg
    rw [hz] at this
    exact this
  have hf:=A.fl
  generalize hX : (strp t).2=X at c1 hi
  rw [encT_eq] at c1
  have H0:Hp n h (n+1) ((n,(Ob.row 6 [.agg [.int .i64 (X).form,.int .i64 (X).n,.bool (X).hid,.str (X).name,slD 2 encL (X).levels,slD 6 encT (X).kids]]))::h) := (Hp.start hg).box (r:=n) (m:=n+1) (Nat.le_refl _) (by omega) (flatTA X)
  have c2:∀ m,n+1≤m→callFn (LX (cF Try.prog)) m ((n,(Ob.row 6 [.agg [.int .i64 (X).form,.int .i64 (X).n,.bool (X).hid,.str (X).name,slD 2 encL (X).levels,slD 6 encT (X).kids]]))::h) [.ptr f 0 0,(D.agg [.int .i64 (X).form,.int .i64 (X).n,.bool (X).hid,.str (X).name,slD 2 encL (X).levels,slD 6 encT (X).kids]),.int .i64 out] (cF Try.prog 44) = .ok (.tup [d,.bool b]) m ((n,(Ob.row 6 [.agg [.int .i64 (X).form,.int .i64 (X).n,.bool (X).hid,.str (X).name,slD 2 encL (X).levels,slD 6 encT (X).kids]]))::h):=fun m hm=>hi m _ (H0.good' hm) ((A.hp (H0.mono hm)))
  have o1:∀ m g,okD m g d = .ok d m g:=by
    intro m g
    cases d <;> first | rfl | cases ho1
  rw [f45_eq]; unfold c45; rw [callFn_eq (by rfl)]
  simp (disch:=first|assumption|omega|(simp (disch:=first|assumption|omega) only [sB,reduceAdd,reduceLT,reduceLeDiff,reduceEqDiff,reduceMul,↓reduceIte,hG,gd_tm,gd_nil,getO_tl];done)|fail) only [sA,↓reduceIte,reduceLT,reduceEqDiff,reduceAdd,reduceLeDiff,c1,c2,o1,Int.add_zero,hG,gd_tm,gd_nil,getO_tl]
  exact finish_flat (by simp [flat_tup,flat2_nils,flat2_bool,hd]) (H0.mono (by omega))
end Go.Proofs.Ytpbpmpabndgeeaa
set_option linter.unusedSimpArgs false
set_option linter.unusedVariables false
namespace Go.Proofs.Ytpbpmpabndgeeaa
open Go
open Nat (reduceAdd reduceLT reduceLeDiff reduceEqDiff reduceMul)

def setT (k:Int):Tm := .mk 2 0 false [] ⟨false,true,[⟨k,Sl.app []⟩],[]⟩ true false [] []
set_option maxHeartbeats 4000000 in
theorem lev_same1 (k:Int) (n:Nat) (h:Hps) (hg:Gd n h):callFn (LX (cF Try.prog)) n h [.sl 2 [.agg [.int .i64 k,.nils]] [] true,.sl 2 [.agg [.int .i64 k,.nils]] [] true] (cF Try.prog 70) = .ok (.bool true) n h:=by
  have hgn:=hg n (Nat.le_refl _)
  have hG:∀ m,n≤m→Gd m h:=fun m hm=>hg.mono hm
  have c1:∀ m h,Gd m h→callFn (LX (cF Try.prog)) m h [.nils,.nils] (cF Try.prog 86) = .ok (.bool true) m h:=fun m h hg=>slEqual m h hg (Sl.app []) (Sl.app []) (by simp [Sl.app]) (by simp [Sl.app])
  have s1:∀ m g,lenD m g .slice (.sl 2 [.agg [.int .i64 k,.nils]] [] true) = .ok (.int .i64 1) m g:=fun _ _=>rfl
  have s2:∀ m g,iaddrD m g 2 (.sl 2 [.agg [.int .i64 k,.nils]] [] true) 0 = .ok (.ip (.agg [.int .i64 k,.nils]) 0) m g:=fun _ _=>rfl
  rw [f70_eq]; unfold c70; rw [callFn_eq (by rfl)]
  simp (disch:=first|assumption|omega|(simp (disch:=first|assumption|omega) only [sB,reduceAdd,reduceLT,reduceLeDiff,reduceEqDiff,reduceMul,↓reduceIte];done)|fail) only [sA,↓reduceIte,reduceLT,reduceEqDiff,reduceAdd,reduceLeDiff,s1]
  rw [LX_loop]
  unfold l70_0
  simp (disch:=first|assumption|omega|(simp (disch:=first|assumption|omega) only [sB,reduceAdd,reduceLT,reduceLeDiff,reduceEqDiff,reduceMul,↓reduceIte,hG,gd_nil];done)|fail) only [sA,↓reduceIte,reduceLT,reduceEqDiff,reduceAdd,reduceLeDiff,s1,s2,c1,hG,gd_nil]
  rw [LX_loop]
  simp (disch:=first|assumption|omega|(simp (disch:=first|assumption|omega) only [sB,reduceAdd,reduceLT,reduceLeDiff,reduceEqDiff,reduceMul,↓reduceIte];done)|fail) only [sA,↓reduceIte,reduceLT,reduceEqDiff,reduceAdd,reduceLeDiff]
set_option maxHeartbeats 4000000 in
theorem pSameSet (k:Int) (n:Nat) (h:Hps) (hg:Gd n h):callFn (LX (cF Try.prog)) n h [(D.agg [.int .i64 (setT k).form,.int .i64 (setT k).n,.bool (setT k).hid,.str (setT k).name,slD 2 encL (setT k).levels,slD 6 encT (setT k).kids]),(D.agg [.int .i64 (setT k).form,.int .i64 (setT k).n,.bool (setT k).hid,.str (setT k).name,slD 2 encL (setT k).levels,slD 6 encT (setT k).kids]),.bool false] (cF Try.prog 43) = .ok (.bool true) n h:=by
  have hgn:=hg n (Nat.le_refl _)
  have hG:∀ m,n≤m→Gd m h:=fun m hm=>hg.mono hm
  have c1:=lev_same1 k
  show callFn (LX (cF Try.prog)) n h [.agg [.int .i64 2,.int .i64 0,.bool false,.str [],.sl 2 [.agg [.int .i64 k,.nils]] [] true,.nils],.agg [.int .i64 2,.int .i64 0,.bool false,.str [],.sl 2 [.agg [.int .i64 k,.nils]] [] true,.nils],.bool false] (cF Try.prog 43) = .ok (.bool true) n h
  have gd2:∀ {m r:Nat} {g:Hps},r < m→Gd m ((r,.row 6 [.agg [.int .i64 2,.int .i64 0,.bool false,.str [],.sl 2 [.agg [.int .i64 k,.nils]] [] true,.nils]])::g)=Gd m g:=fun {m r g} hr=>gd_tm (t:=setT k) hr
  rw [f43_eq]; unfold c43; rw [callFn_eq (by rfl)]
  simp (disch:=first|assumption|omega|(simp (disch:=first|assumption|omega) only [sB,reduceAdd,reduceLT,reduceLeDiff,reduceEqDiff,reduceMul,↓reduceIte,hG,gd2];done)|fail) only [sA,↓reduceIte,reduceLT,reduceEqDiff,reduceAdd,reduceLeDiff,c1,hG,gd2]
  rw [LX_loop]
  unfold l43_0
  simp (disch:=first|assumption|omega|(simp (disch:=first|assumption|omega) only [sB,reduceAdd,reduceLT,reduceLeDiff,reduceEqDiff,reduceMul,↓reduceIte];done)|fail) only [sA,↓reduceIte,reduceLT,reduceEqDiff,reduceAdd,reduceLeDiff]
def encI (i:Nat):D := .int .i64 (i:Nat)
theorem hasP_tup {n q:Nat} {cs:List D} (h:n≤q):hasP n 20 (.tup (.ptr q 0 0::cs))=true:=by
  show Bool.not (allL (fun d=>Bool.not (hasP n 19 d)) (.ptr q 0 0::cs))=true
  rw [allL_eq,List.all_cons]
  have:hasP n 19 (.ptr q 0 0)=Nat.ble n q:=rfl
  rw [this,ble_iff,decide_eq_true h]; rfl
theorem fin_hasP {n m:Nat} {h:Hps} {d:D} (e:hasP n 20 d=true):finishD n m h d = .ok d m h:=by unfold finishD; rw [e]; rfl
structure Mkr (F:Fa) (f r k A:Nat) (nm:List Nat) (ty:Tm) (l:List Tm) (t:Tm) (dI:D) (R:Nat→Bool):Prop where
  at_:F.cs[k]? = some (nm,ty)
  form:formedT ty.abs=true
  size:sizeT ty.abs≤100000
  strp:strp ty = (l,t)
  len:l.length=F.Ps.el.length+A
  few:F.Ps.el.length≤1000∧A≤1000
  par:∀ i (hi:i < F.Ps.el.length),F.Ps.el[i]=setT 0∧l[i]? = some (setT 0)
  dI1:flat2 dI=true
  dI2:one dI=true
  res:∀ m h,Gd m h→Fat F f r m h→callFn (LX (cF Try.prog)) m h [.ptr f 0 0,(D.agg [.int .i64 (t).form,.int .i64 (t).n,.bool (t).hid,.str (t).name,slD 2 encL (t).levels,slD 6 encT (t).kids]),.int .i64 (A:Nat)] (cF Try.prog 44) = .ok (.tup [dI,.bool true]) m h
  arg:∀ i,i < A→∃ a d,l[F.Ps.el.length+i]? = some a∧flat2 d=true∧one d=true∧∀ m h,Gd m h→Fat F f r m h→callFn (LX (cF Try.prog)) m h [.ptr f 0 0,(D.agg [.int .i64 (a).form,.int .i64 (a).n,.bool (a).hid,.str (a).name,slD 2 encL (a).levels,slD 6 encT (a).kids]),.int .i64 (i:Nat)] (cF Try.prog 45) = .ok (.tup [.nils,d,.bool (R i)]) m h
def recs (R:Nat→Bool) (i:Nat):List Nat := (List.range i).filter R
theorem recs_yes {R:Nat→Bool} {i:Nat} (h:R i=true):recs R (i+1)=recs R i++[i]:=by unfold recs; rw [List.range_succ,List.filter_append]; simp [h]
theorem recs_no {R:Nat→Bool} {i:Nat} (h:R i=false):recs R (i+1)=recs R i:=by unfold recs; rw [List.range_succ,List.filter_append]; simp [h]
theorem recs_len {R:Nat→Bool} {i:Nat} : (recs R i).length≤i:=by
  have:=List.length_filter_le R (List.range i)
  simpa [recs] using this
set_option maxHeartbeats 8000000 in
theorem pMaker {F:Fa} {f r k A:Nat} {nm:List Nat} {ty t:Tm} {l:List Tm} {dI:D} {R:Nat→Bool} (M:Mkr F f r k A nm ty l t dI R) {n:Nat} {h:Hps} (hg:Gd n h) (X:Fat F f r n h) :
    ∃ n' h' q dR,callFn (LX (cF Try.prog)) n h [.ptr f 0 0,.int .i64 (k:Nat)] (cF Try.prog 23) = .ok (.tup [.ptr q 0 0,.bool true]) n' h'∧Hp n h n' h'∧n≤q∧q < n'∧getO h' q = .row 3 [.agg [slD 6 encT ((Sl.app l).cut F.Ps.el.length l.length),dR,dI]]∧Bld 1 encI (q+1) (recs R A) h' dR:=by
  have hgn:=hg n (Nat.le_refl _)
  have hG:∀ m,n≤m→Gd m h:=fun m hm=>hg.mono hm
  have hf:=X.fl
  have hr:=X.rl
  have z0:=X.box
  have zr:=X.row
  have hk:k < F.cs.length:=by
    have:=M.at_
    exact (List.getElem?_eq_some_iff.1 this).1
  have eg : (F.cs.map encC).getD k .junk = .agg [.str nm,.int .i64 ty.form,.int .i64 ty.n,.bool ty.hid,.str ty.name,slD 2 encL ty.levels,slD 6 encT ty.kids]:=by
    rw [List.getD_eq_getElem?_getD,List.getElem?_map,M.at_]; rfl
  have c1:∀ m h,Gd m h→callFn (LX (cF Try.prog)) m h [(D.agg [.int .i64 (ty).form,.int .i64 (ty).n,.bool (ty).hid,.str (ty).name,slD 2 encL (ty).levels,slD 6 encT (ty).kids])] (cF Try.prog 42) = .ok (.tup [slD 6 encT (Sl.app l),encT t]) m h:=fun m h hg=>by
    have:=pStrip ty M.form M.size m h hg
    rw [M.strp] at this
    exact this
  rw [encT_eq] at c1
  have hl:=M.len
  have hw:=M.few
  rw [f23_eq]; unfold c23; rw [callFn_eq (by rfl)]
  have H0:Hp n h (n+17) ((n+16,(Ob.row 6 [.agg [.int .i64 (t).form,.int .i64 (t).n,.bool (t).hid,.str (t).name,slD 2 encL (t).levels,slD 6 encT (t).kids]]))::h) := (Hp.start hg).box (r:=n+16) (m:=n+17) (by omega) (by omega) (flatTA t)
  simp (disch:=first|assumption|omega|(simp (disch:=first|assumption|omega) only [sB,reduceAdd,reduceLT,reduceLeDiff,reduceEqDiff,reduceMul,↓reduceIte,hG,getO_tl];done)|fail) only [sA,↓reduceIte,reduceLT,reduceEqDiff,reduceAdd,reduceLeDiff,z0,zr,iaddr_ms,eg,c1,hG,getO_tl]
  generalize hr0:LX (cF Try.prog) (.loop l23_0) _ _ _=r0
  obtain ⟨x,e2,n2,h2,rfl,rfl,H2,p2,z7,q0,q6,q7,q8⟩:=loop_up hr0 F.Ps.el.length
    (fun i e n' h'=>Hp n h n' h'∧n+17≤n'∧getO h' (n+16) = (Ob.row 6 [.agg [.int .i64 (t).form,.int .i64 (t).n,.bool (t).hid,.str (t).name,slD 2 encL (t).levels,slD 6 encT (t).kids]])∧get (po 0) e = .ptr f 0 0∧get (po 6) e=slD 6 encT (Sl.app l)∧get (po 7) e = .ptr (n+16) 0 0∧get (po 8) e = .int .i64 (F.Ps.el.length:Nat)∧get (po 44) e=slD 6 encT F.Ps∧get (po 45) e = .int .i64 (F.Ps.el.length:Nat)∧get (po 46) e = .int .i64 (i:Nat))
    (fun x e n' h'=>x = .exit 0∧Hp n h n' h'∧n+17≤n'∧getO h' (n+16) = (Ob.row 6 [.agg [.int .i64 (t).form,.int .i64 (t).n,.bool (t).hid,.str (t).name,slD 2 encL (t).levels,slD 6 encT (t).kids]])∧get (po 0) e = .ptr f 0 0∧get (po 6) e=slD 6 encT (Sl.app l)∧get (po 7) e = .ptr (n+16) 0 0∧get (po 8) e = .int .i64 (F.Ps.el.length:Nat))
    (by
      rintro e n' h' ⟨H,p1,z7,g0,g6,g7,g8,g44,g45,g46⟩
      unfold l23_0
      simp (disch:=first|assumption|omega|(simp (disch:=first|assumption|omega) only [sB,reduceAdd,reduceLT,reduceLeDiff,reduceEqDiff,reduceMul,↓reduceIte];done)|fail) only [sA,↓reduceIte,reduceLT,reduceEqDiff,reduceAdd,reduceLeDiff,g44,g45,g46]
      exact ⟨_,_,_,_,rfl,by simp,rfl,H.mono (by omega),by omega,z7,by simp +decide only [sG,g0],by simp +decide only [sG,g6],by simp +decide only [sG,g7],by simp +decide only [sG,g8]⟩)
    (by
      rintro i e n' h' hi ⟨H,p1,z7,g0,g6,g7,g8,g44,g45,g46⟩
      obtain ⟨m1,m2⟩:=M.par i hi
      have hil:i < l.length:=by omega
      have m3:l[i]=setT 0:=by rw [List.getElem?_eq_getElem hil] at m2; exact Option.some.inj m2
      have e1:∀ hh,encT (F.Ps.el[i]'hh) = (D.agg [.int .i64 (setT 0).form,.int .i64 (setT 0).n,.bool (setT 0).hid,.str (setT 0).name,slD 2 encL (setT 0).levels,slD 6 encT (setT 0).kids]):=fun hh=>by rw [m1]; exact encT_eq _
      have e3:∀ hh,encT (l[i]'hh) = (D.agg [.int .i64 (setT 0).form,.int .i64 (setT 0).n,.bool (setT 0).hid,.str (setT 0).name,slD 2 encL (setT 0).levels,slD 6 encT (setT 0).kids]):=fun hh=>by rw [m3]; exact encT_eq _
      have c2:=pSameSet 0
      have hG':∀ m,n'≤m→Gd m h':=fun m hm=>H.good' hm
      generalize hS:setT 0=S at e1 e3 c2
      unfold l23_0
      simp (disch:=first|assumption|omega|(simp (disch:=first|assumption|omega) only [sB,reduceAdd,reduceLT,reduceLeDiff,reduceEqDiff,reduceMul,↓reduceIte,hG',gd_tm,app_el,hil];done)|fail) only [sA,↓reduceIte,reduceLT,reduceEqDiff,reduceAdd,reduceLeDiff,g0,g6,g7,g8,g44,g45,g46,e1,e3,c2,hG',gd_tm,app_el,hil]
      exact ⟨_,_,_,_,rfl,.inl ⟨rfl,(H.box (r:=n'+4) (m:=n'+5) (by omega) (by omega) (flatTA S)).mono (by omega),by omega,by rw [getO_tl (by omega)]; exact z7,by simp +decide only [sG,g0],by simp +decide only [sG,g6],by simp +decide only [sG,g7],by simp +decide only [sG,g8],by simp +decide only [sG,g44],by simp +decide only [sG,g45],by simp +decide only [sG]⟩⟩)
    ⟨H0.mono (by omega),by omega,getO_hd,by simp +decide only [sG],by simp +decide only [sG],by simp +decide only [sG],by simp +decide only [sG],by simp +decide only [sG],by simp +decide only [sG],by simp (disch:=first|assumption|omega|(simp (disch:=first|assumption|omega) only [sB,reduceAdd,reduceLT,reduceLeDiff,reduceEqDiff,reduceMul,↓reduceIte];done)|fail) only [sA,↓reduceIte,reduceLT,reduceEqDiff,reduceAdd,reduceLeDiff]⟩
  have sl2:∀ m g,slcX m g 6 encT (Sl.app l) (.int .i64 (F.Ps.el.length:Nat)) (.int .i64 (l.length:Nat)) = .ok (slD 6 encT ((Sl.app l).cut F.Ps.el.length l.length)) m g:=fun m g=>by
    show (if F.Ps.el.length≤l.length∧l.length≤l.length+0 then Rd.ok (slD 6 encT ((Sl.app l).cut F.Ps.el.length l.length)) m g else .bad)=_
    rw [if_pos ⟨by omega,Nat.le_refl _⟩]
  have eV : ((Sl.app l).cut F.Ps.el.length l.length).el=l.drop F.Ps.el.length:=by
    show ((l++[]).drop F.Ps.el.length).take (l.length - F.Ps.el.length)=_
    rw [List.append_nil,List.take_of_length_le (by rw [List.length_drop]; exact Nat.le_refl _)]
  have eVl : ((Sl.app l).cut F.Ps.el.length l.length).el.length=A:=by rw [eV,List.length_drop]; omega
  generalize hV : (Sl.app l).cut F.Ps.el.length l.length=V at sl2 eV eVl
  have X2:Fat F f r n2 h2:=X.hp H2
  have H3:Hp n h (n2+5) ((n2+4,.row 3 [.agg [slD 6 encT V,.nils,.nils]])::h2):=H2.box (r:=n2+4) (m:=n2+5) (by omega) (by omega) (by simp [flat_agg,flat1_slD,flat1_nils])
  have c4:∀ m,n2+5≤m→callFn (LX (cF Try.prog)) m ((n2+4,.row 3 [.agg [slD 6 encT V,.nils,.nils]])::h2) [.ptr f 0 0,(D.agg [.int .i64 (t).form,.int .i64 (t).n,.bool (t).hid,.str (t).name,slD 2 encL (t).levels,slD 6 encT (t).kids]),.int .i64 (V.el.length:Nat)] (cF Try.prog 44) = .ok (.tup [dI,.bool true]) m ((n2+4,.row 3 [.agg [slD 6 encT V,.nils,.nils]])::h2):=fun m hm=>by
    rw [eVl]; exact M.res m _ (H3.good' hm) (X.hp (H3.mono hm))
  have o1:∀ m g,okD m g dI = .ok dI m g:=by
    intro m g
    have:=M.dI2
    cases dI <;> first | rfl | cases this
  have x1:cellsX dI=some [dI]:=by
    have:=M.dI2
    cases dI <;> first | rfl | cases this
  have o2:=M.dI2
  have o3:=M.dI1
  have lw:∀ {m:Nat} {G:Hps} {L:List Nat} {d:D},Bld 1 encI (n2+5) L G d→GoodAt m G→lowO m (.row 3 [.agg [slD 6 encT V,d,dI]]):=fun {m G L d} B hg=>lowO_one (low_agg (fun x hx=>by
    rcases List.mem_cons.1 hx with rfl | hx
    · exact (plain1 18 flat1_slD).hasR m
    rcases List.mem_cons.1 hx with rfl | hx
    · exact B.lowF hg 18
    · rw [List.mem_singleton.1 hx]; exact (plain2 17 o3).hasR m))
  have H4:Hp n h (n2+5) ((n2+4,.row 3 [.agg [slD 6 encT V,.nils,dI]])::h2):=H2.cons (r:=n2+4) (m:=n2+5) (by omega) (by omega) (fun k hk=>lw (L:=[]) (.inl ⟨rfl,rfl⟩) (H2.good k (by omega)))
  simp (disch:=first|assumption|omega|(simp (disch:=first|assumption|omega) only [sB,reduceAdd,reduceLT,reduceLeDiff,reduceEqDiff,reduceMul,↓reduceIte];done)|fail) only [sA,↓reduceIte,reduceLT,reduceEqDiff,reduceAdd,reduceLeDiff,q0,q6,q7,q8,sl2,z7,c4,o1,x1,storeD_ptr]
  generalize hr1:LX (cF Try.prog) (.loop l23_1) _ _ _=r1
  obtain ⟨x,e3,n3,h3,rfl,rfl,H5,p5,dR,B5,z5,q11⟩:=loop_up hr1 A
    (fun i e n' h'=>Hp n h n' h'∧n2+5≤n' ∧ (∃ dR,Bld 1 encI (n2+5) (recs R i) h' dR∧getO h' (n2+4) = .row 3 [.agg [slD 6 encT V,dR,dI]])∧get (po 0) e = .ptr f 0 0∧get (po 11) e = .ptr (n2+4) 0 0∧get (po 84) e=slD 6 encT V∧get (po 85) e = .int .i64 (A:Nat)∧get (po 86) e = .int .i64 (i:Nat))
    (fun x e n' h'=>x = .exit 2∧Hp n h n' h'∧n2+5≤n'∧∃ dR,Bld 1 encI (n2+5) (recs R A) h' dR∧getO h' (n2+4) = .row 3 [.agg [slD 6 encT V,dR,dI]]∧get (po 11) e = .ptr (n2+4) 0 0)
    (by
      rintro e n' h' ⟨H,p1,⟨dR,B,zq⟩,g0,g11,g84,g85,g86⟩
      unfold l23_1
      simp (disch:=first|assumption|omega|(simp (disch:=first|assumption|omega) only [sB,reduceAdd,reduceLT,reduceLeDiff,reduceEqDiff,reduceMul,↓reduceIte];done)|fail) only [sA,↓reduceIte,reduceLT,reduceEqDiff,reduceAdd,reduceLeDiff,g84,g85,g86]
      exact ⟨_,_,_,_,rfl,by simp,rfl,H.mono (by omega),by omega,dR,B,zq,by simp +decide only [sG,g11]⟩)
    (by
      rintro i e n' h' hi ⟨H,p1,⟨dR,B,zq⟩,g0,g11,g84,g85,g86⟩
      obtain ⟨a,d,a1,a2,a3,a4⟩:=M.arg i hi
      have hiV:i < V.el.length:=by omega
      have eA:∀ hh,encT (V.el[i]'hh) = (D.agg [.int .i64 (a).form,.int .i64 (a).n,.bool (a).hid,.str (a).name,slD 2 encL (a).levels,slD 6 encT (a).kids]):=fun hh=>by
        have:V.el[i]? = some a:=by rw [eV,List.getElem?_drop]; exact a1
        rw [List.getElem?_eq_getElem hh] at this
        rw [Option.some.inj this]; exact encT_eq _
      have H1:Hp n h (n'+5) ((n'+4,(Ob.row 6 [.agg [.int .i64 (a).form,.int .i64 (a).n,.bool (a).hid,.str (a).name,slD 2 encL (a).levels,slD 6 encT (a).kids]]))::h'):=H.box (r:=n'+4) (m:=n'+5) (by omega) (by omega) (flatTA a)
      have B1:Bld 1 encI (n2+5) (recs R i) ((n'+4,(Ob.row 6 [.agg [.int .i64 (a).form,.int .i64 (a).n,.bool (a).hid,.str (a).name,slD 2 encL (a).levels,slD 6 encT (a).kids]]))::h') dR:=B.cons (H.good n' (Nat.le_refl _)) (by omega)
      have c5:∀ m,n'+5≤m→callFn (LX (cF Try.prog)) m ((n'+4,(Ob.row 6 [.agg [.int .i64 (a).form,.int .i64 (a).n,.bool (a).hid,.str (a).name,slD 2 encL (a).levels,slD 6 encT (a).kids]]))::h') [.ptr f 0 0,(D.agg [.int .i64 (a).form,.int .i64 (a).n,.bool (a).hid,.str (a).name,slD 2 encL (a).levels,slD 6 encT (a).kids]),.int .i64 (i:Nat)] (cF Try.prog 45) = .ok (.tup [.nils,d,.bool (R i)]) m ((n'+4,(Ob.row 6 [.agg [.int .i64 (a).form,.int .i64 (a).n,.bool (a).hid,.str (a).name,slD 2 encL (a).levels,slD 6 encT (a).kids]]))::h'):=fun m hm=>a4 m _ (H1.good' hm) (X.hp (H1.mono hm))
      have o5:∀ m g,okD m g d = .ok d m g:=by
        intro m g
        cases d <;> first | rfl | cases a3
      unfold l23_1
      cases hR:R i with
      | false =>
        rw [hR] at c5
        simp (disch:=first|assumption|omega|(simp (disch:=first|assumption|omega) only [sB,reduceAdd,reduceLT,reduceLeDiff,reduceEqDiff,reduceMul,↓reduceIte,hiV];done)|fail) only [sA,↓reduceIte,reduceLT,reduceEqDiff,reduceAdd,reduceLeDiff,g0,g11,g84,g85,g86,eA,c5,o5,hiV]
        exact ⟨_,_,_,_,rfl,.inl ⟨rfl,H1.mono (by omega),by omega,⟨dR,by rw [recs_no hR]; exact B1,by rw [getO_tl (by omega)]; exact zq⟩,by simp +decide only [sG,g0],by simp +decide only [sG,g11],by simp +decide only [sG,g84],by simp +decide only [sG,g85],by simp +decide only [sG]⟩⟩
      | true =>
        rw [hR] at c5
        have hrl:=recs_len (R:=R) (i:=i)
        obtain ⟨D',H',A1⟩:=app_bldx (b:=8) B1 H1 (by omega) (by omega) (fun m x=>low_flat rfl) [i] (by simp; omega)
        have A2:=fun m hm => (A1 m hm).1
        simp only [List.map_cons,List.map_nil,encI] at A2
        have z6:∀ m,n'+5≤m→getO (H' m) (n2+4) = .row 3 [.agg [slD 6 encT V,dR,dI]]:=fun m hm=>by rw [(A1 m hm).2.2.2.1 _ (by omega),getO_tl (by omega)]; exact zq
        have oR:=B.okD
        have D1:∀ m,n'+5≤m→one (D' m)=true:=fun m hm => (A1 m hm).2.1.one
        simp (disch:=first|assumption|omega|(simp (disch:=first|assumption|omega) only [sB,reduceAdd,reduceLT,reduceLeDiff,reduceEqDiff,reduceMul,↓reduceIte,hiV,D1,getO_tl];done)|fail) only [sA,↓reduceIte,reduceLT,reduceEqDiff,reduceAdd,reduceLeDiff,g0,g11,g84,g85,g86,eA,c5,o5,zq,z6,A2,oR,storeD_ptr,hiV,D1,getO_tl]
        have BB := (A1 (n'+27) (by omega)).2.1
        have HH := (A1 (n'+27) (by omega)).2.2.1
        have zz:=z6 (n'+27) (by omega)
        exact ⟨_,_,_,_,rfl,.inl ⟨rfl,(HH.set (r:=n2+4) (by omega) (fun k hk=>lw BB (HH.good k hk))).mono (by omega),by omega,⟨D' (n'+27),by rw [recs_yes hR]; exact BB.set zz (by omega),getO_set1 zz⟩,by simp +decide only [sG,g0],by simp +decide only [sG,g11],by simp +decide only [sG,g84],by simp +decide only [sG,g85],by simp +decide only [sG]⟩⟩)
    ⟨H4.mono (by omega),by omega,⟨.nils,.inl ⟨rfl,rfl⟩,getO_hd⟩,by simp +decide only [sG,q0],by simp +decide only [sG],by simp +decide only [sG],by simp +decide only [sG,eVl],by simp (disch:=first|assumption|omega|(simp (disch:=first|assumption|omega) only [sB,reduceAdd,reduceLT,reduceLeDiff,reduceEqDiff,reduceMul,↓reduceIte];done)|fail) only [sA,↓reduceIte,reduceLT,reduceEqDiff,reduceAdd,reduceLeDiff]⟩
  simp (disch:=first|assumption|omega|(simp (disch:=first|assumption|omega) only [sB,reduceAdd,reduceLT,reduceLeDiff,reduceEqDiff,reduceMul,↓reduceIte];done)|fail) only [sA,↓reduceIte,reduceLT,reduceEqDiff,reduceAdd,reduceLeDiff,q11]
  rw [fin_hasP (hasP_tup (by omega))]
  exact ⟨n3+3,h3,n2+4,dR,rfl,H5.mono (by omega),by omega,by omega,z5,B5⟩
end Go.Proofs.Ytpbpmpabndgeeaa
