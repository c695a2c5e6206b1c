/- A declaration's bytes; what asks it. No condition but lengths. -/
import Derived.Test.YtpbpmpabndgeeaaEP
set_option linter.unusedSimpArgs false
set_option linter.unusedVariables false
namespace Go.Proofs.Ytpbpmpabndgeeaa
open Go
open Nat (reduceAdd reduceLT reduceLeDiff reduceEqDiff reduceMul)

theorem named_ok {n:Nat} {h:Hps} (hg:Gd n h) {nm:List Nat} (hn:nm≠[]∧nm.length≤60):callFn (LX (cF Try.prog)) n h [.str nm] (cF Try.prog 79) = .ok (.bool true) n h:=by
  have hgn:=hg n (Nat.le_refl _)
  have s1:binD .neq (.str nm) (.str []) = .bool true:=by rw [str_neq,decide_eq_false hn.1]; rfl
  have l1:∀ m g,lenD m g .str (.str nm) = .ok (.int .i64 (nm.length:Nat)) m g:=fun m g=>len_str
  have q1 : ((nm.length:Nat):Int)≤60:=by have:=hn.2; omega
  rw [f79_eq]; unfold c79; rw [callFn_eq (by rfl)]
  simp (disch:=first|assumption|omega|(simp (disch:=first|assumption|omega) only [sB,reduceAdd,reduceLT,reduceLeDiff,reduceEqDiff,reduceMul,↓reduceIte];done)|fail) only [sA,↓reduceIte,reduceLT,reduceEqDiff,reduceAdd,reduceLeDiff,s1,l1,q1]
structure Fok (F:Fa) (cT cC:Nat):Prop where
  nm:F.nm≠[]∧F.nm.length≤60
  sane:saneT F.typ.abs=true
  check:checkT F.typ.abs=0
  wt:Wt F.typ cT
  par:F.P≤60
  cs:F.cs.length≤40
  ctor:∀ x,x∈F.cs → (x.1≠[]∧x.1.length≤60)∧saneT x.2.abs=true∧checkT x.2.abs=0∧Wt x.2 cC
  few:200+cT+40 * (100+cC) < 700000
theorem encC_eq (x:List Nat×Tm):encC x = .agg [.str x.1,.int .i64 x.2.form,.int .i64 x.2.n,.bool x.2.hid,.str x.2.name,slD 2 encL x.2.levels,slD 6 encT x.2.kids]:=rfl
theorem getC {l:List (List Nat×Tm)} {i:Nat} (hi:i < l.length) : (l.map encC).getD i .junk=encC l[i]:=by
  rw [List.getD_eq_getElem?_getD,List.getElem?_map,List.getElem?_eq_getElem hi]; rfl
set_option maxHeartbeats 8000000 in
theorem pBask {F:Fa} {r n cT cC:Nat} {h:Hps} (hg:Gd n h) (hr:r < n) (yr:getO h r = .row 7 (F.cs.map encC)) (K:Fok F cT cC):callFn (LX (cF Try.prog)) n h [(D.agg [.int .i64 3,.str (F).nm,.int .i64 0,.int .i64 (F).typ.form,.int .i64 (F).typ.n,.bool (F).typ.hid,.str (F).typ.name,slD 2 encL (F).typ.levels,slD 6 encT (F).typ.kids,.int .i64 0,.int .i64 0,.bool false,.str [],.nils,.nils,.int .i64 ((F).P:Nat),.ms 7 (r) 0 (F).cs.length false])] (cF Try.prog 56) = .ok (.int .i64 0) n h:=by
  have hgn:=hg n (Nat.le_refl _)
  have H0:Hp n h (n+1) ((n,.row 17 [(D.agg [.int .i64 3,.str (F).nm,.int .i64 0,.int .i64 (F).typ.form,.int .i64 (F).typ.n,.bool (F).typ.hid,.str (F).typ.name,slD 2 encL (F).typ.levels,slD 6 encT (F).typ.kids,.int .i64 0,.int .i64 0,.bool false,.str [],.nils,.nils,.int .i64 ((F).P:Nat),.ms 7 (r) 0 (F).cs.length false])])::h) := (Hp.start hg).cons (r:=n) (m:=n+1) (Nat.le_refl _) (by omega) (fun k hk=>lowFD (by omega))
  have c1:∀ m,n+1≤m→callFn (LX (cF Try.prog)) m ((n,.row 17 [(D.agg [.int .i64 3,.str (F).nm,.int .i64 0,.int .i64 (F).typ.form,.int .i64 (F).typ.n,.bool (F).typ.hid,.str (F).typ.name,slD 2 encL (F).typ.levels,slD 6 encT (F).typ.kids,.int .i64 0,.int .i64 0,.bool false,.str [],.nils,.nils,.int .i64 ((F).P:Nat),.ms 7 (r) 0 (F).cs.length false])])::h) [(D.agg [.int .i64 (F.typ).form,.int .i64 (F.typ).n,.bool (F.typ).hid,.str (F.typ).name,slD 2 encL (F.typ).levels,slD 6 encT (F.typ).kids])] (cF Try.prog 40) = .ok (.int .i64 0) m ((n,.row 17 [(D.agg [.int .i64 3,.str (F).nm,.int .i64 0,.int .i64 (F).typ.form,.int .i64 (F).typ.n,.bool (F).typ.hid,.str (F).typ.name,slD 2 encL (F).typ.levels,slD 6 encT (F).typ.kids,.int .i64 0,.int .i64 0,.bool false,.str [],.nils,.nils,.int .i64 ((F).P:Nat),.ms 7 (r) 0 (F).cs.length false])])::h):=fun m hm=>by
    have:=pCheck F.typ K.sane m _ (H0.good' hm)
    rw [K.check] at this
    exact this
  have c2:∀ m,n+1≤m→callFn (LX (cF Try.prog)) m ((n,.row 17 [(D.agg [.int .i64 3,.str (F).nm,.int .i64 0,.int .i64 (F).typ.form,.int .i64 (F).typ.n,.bool (F).typ.hid,.str (F).typ.name,slD 2 encL (F).typ.levels,slD 6 encT (F).typ.kids,.int .i64 0,.int .i64 0,.bool false,.str [],.nils,.nils,.int .i64 ((F).P:Nat),.ms 7 (r) 0 (F).cs.length false])])::h) [.str F.nm] (cF Try.prog 79) = .ok (.bool true) m ((n,.row 17 [(D.agg [.int .i64 3,.str (F).nm,.int .i64 0,.int .i64 (F).typ.form,.int .i64 (F).typ.n,.bool (F).typ.hid,.str (F).typ.name,slD 2 encL (F).typ.levels,slD 6 encT (F).typ.kids,.int .i64 0,.int .i64 0,.bool false,.str [],.nils,.nils,.int .i64 ((F).P:Nat),.ms 7 (r) 0 (F).cs.length false])])::h):=fun m hm=>named_ok (H0.good' hm) K.nm
  have q1:¬ ((F.P:Nat):Int) < 0:=by omega
  have q2:¬ ((F.P:Nat):Int) > 60:=by have:=K.par; omega
  have q3:¬ ((F.cs.length:Nat):Int) > 40:=by have:=K.cs; omega
  have l1:∀ m g,lenD m g .slice (.ms 7 r 0 F.cs.length false) = .ok (.int .i64 (F.cs.length:Nat)) m g:=fun _ _=>rfl
  rw [f56_eq]; unfold c56; rw [callFn_eq (by rfl)]
  simp (disch:=first|assumption|omega|(simp (disch:=first|assumption|omega) only [sB,reduceAdd,reduceLT,reduceLeDiff,reduceEqDiff,reduceMul,↓reduceIte];done)|fail) only [sA,↓reduceIte,reduceLT,reduceEqDiff,reduceAdd,reduceLeDiff,c1,c2,q1,q2,q3,l1]
  generalize hr0:LX (cF Try.prog) (.loop l56_0) _ _ _=r0
  obtain ⟨x,e2,n2,h2,rfl,rfl,H2⟩:=loop_up hr0 F.cs.length
    (fun i e n' h'=>Hp n h n' h'∧get (po 61) e = .ms 7 r 0 F.cs.length false∧get (po 62) e = .int .i64 (F.cs.length:Nat)∧get (po 63) e = .int .i64 (i:Nat))
    (fun x e n' h'=>x = .exit 1∧Hp n h n' h')
    (by
      rintro e n' h' ⟨H,g61,g62,g63⟩
      unfold l56_0
      simp (disch:=first|assumption|omega|(simp (disch:=first|assumption|omega) only [sB,reduceAdd,reduceLT,reduceLeDiff,reduceEqDiff,reduceMul,↓reduceIte];done)|fail) only [sA,↓reduceIte,reduceLT,reduceEqDiff,reduceAdd,reduceLeDiff,g61,g62,g63]
      exact ⟨_,_,_,_,rfl,by simp,rfl,H.mono (by omega)⟩)
    (by
      rintro i e n' h' hi ⟨H,g61,g62,g63⟩
      have zr:getO h' r = .row 7 (F.cs.map encC):=by rw [H.get hr]; exact yr
      have eg:=getC hi
      rw [encC_eq] at eg
      obtain ⟨k1,k2,k3,_⟩:=K.ctor F.cs[i] (List.getElem_mem _)
      generalize F.cs[i]=x at eg k1 k2 k3
      have hG:∀ m,n'≤m→Gd m h':=fun m hm=>H.good' hm
      have c3:∀ m h,Gd m h→callFn (LX (cF Try.prog)) m h [.str x.1] (cF Try.prog 79) = .ok (.bool true) m h:=fun m h hg=>named_ok hg k1
      have c4:∀ m h,Gd m h→callFn (LX (cF Try.prog)) m h [(D.agg [.int .i64 (x.2).form,.int .i64 (x.2).n,.bool (x.2).hid,.str (x.2).name,slD 2 encL (x.2).levels,slD 6 encT (x.2).kids])] (cF Try.prog 40) = .ok (.int .i64 0) m h:=fun m h hg=>by
        have:=pCheck x.2 k2 m h hg
        rw [k3] at this
        exact this
      have gdc:∀ {m y:Nat} {g:Hps},y < m→Gd m ((y,.row 7 [.agg [.str x.1,.int .i64 x.2.form,.int .i64 x.2.n,.bool x.2.hid,.str x.2.name,slD 2 encL x.2.levels,slD 6 encT x.2.kids]])::g)=Gd m g:=fun {m y g} hy=>gd_flat (by rw [flat_agg]; simp [flat1_slD,flat1_int,flat1_str,show flat1 (.bool x.2.hid)=true from rfl]) hy
      unfold l56_0
      simp (disch:=first|assumption|omega|(simp (disch:=first|assumption|omega) only [sB,reduceAdd,reduceLT,reduceLeDiff,reduceEqDiff,reduceMul,↓reduceIte,hG,gdc];done)|fail) only [sA,↓reduceIte,reduceLT,reduceEqDiff,reduceAdd,reduceLeDiff,g61,g62,g63,iaddr_ms,zr,eg,c3,c4,hG,gdc]
      exact ⟨_,_,_,_,rfl,.inl ⟨rfl,(H.box (r:=n'+3) (m:=n'+4) (k:=7) (d := .agg [.str x.1,.int .i64 x.2.form,.int .i64 x.2.n,.bool x.2.hid,.str x.2.name,slD 2 encL x.2.levels,slD 6 encT x.2.kids]) (by omega) (by omega) (by rw [flat_agg]; simp [flat1_slD,flat1_int,flat1_str,show flat1 (.bool x.2.hid)=true from rfl])).mono (by omega),by simp +decide only [sG,g61],by simp +decide only [sG,g62],by simp +decide only [sG]⟩⟩)
    ⟨H0.mono (by omega),by simp +decide only [sG],by simp +decide only [sG],by simp (disch:=first|assumption|omega|(simp (disch:=first|assumption|omega) only [sB,reduceAdd,reduceLT,reduceLeDiff,reduceEqDiff,reduceMul,↓reduceIte];done)|fail) only [sA,↓reduceIte,reduceLT,reduceEqDiff,reduceAdd,reduceLeDiff]⟩
  simp (disch:=first|assumption|omega|(simp (disch:=first|assumption|omega) only [sB,reduceAdd,reduceLT,reduceLeDiff,reduceEqDiff,reduceMul,↓reduceIte];done)|fail) only [sA,↓reduceIte,reduceLT,reduceEqDiff,reduceAdd,reduceLeDiff]
  exact finish_flat (d := .int .i64 0) rfl (H2.mono (show n2≤n2+1 by omega))
set_option maxRecDepth 10000 in
set_option maxHeartbeats 16000000 in
theorem wDecl {F:Fa} {r w q n cT cC:Nat} {L:List D} {h:Hps} (hg:Gd n h) (hr:r < n) (yr:getO h r = .row 7 (F.cs.map encC)) (K:Fok F cT cC) (W:Wst w L q h) (hL:L.length≤1000) :
    WOk n h w q L (100+cT+40 * (62+cC)) (callFn (LX (cF Try.prog)) n h [.ptr w 0 0,(D.agg [.int .i64 3,.str (F).nm,.int .i64 0,.int .i64 (F).typ.form,.int .i64 (F).typ.n,.bool (F).typ.hid,.str (F).typ.name,slD 2 encL (F).typ.levels,slD 6 encT (F).typ.kids,.int .i64 0,.int .i64 0,.bool false,.str [],.nils,.nils,.int .i64 ((F).P:Nat),.ms 7 (r) 0 (F).cs.length false])] (cF Try.prog 58)):=by
  have hgn:=hg n (Nat.le_refl _)
  obtain ⟨hw,hq⟩:=W.lt hg
  have few:=K.few
  have cl:=K.cs
  have ne1:r≠w:=fun e=>by
    rcases W.2 with ⟨_,_,g1⟩ | ⟨_,_,g1,_⟩ <;> · rw [← e,yr] at g1; injection g1 with g1 _; cases g1
  have ne2:r≠q:=fun e=>by
    rcases W.2 with ⟨_,e2,g1⟩ | ⟨_,_,_,g2⟩
    · exact ne1 (e.trans e2)
    · rw [← e,yr] at g2; injection g2 with g2 _; cases g2
  have H0:Hp n h (n+1) ((n,.row 17 [(D.agg [.int .i64 3,.str (F).nm,.int .i64 0,.int .i64 (F).typ.form,.int .i64 (F).typ.n,.bool (F).typ.hid,.str (F).typ.name,slD 2 encL (F).typ.levels,slD 6 encT (F).typ.kids,.int .i64 0,.int .i64 0,.bool false,.str [],.nils,.nils,.int .i64 ((F).P:Nat),.ms 7 (r) 0 (F).cs.length false])])::h) := (Hp.start hg).cons (r:=n) (m:=n+1) (Nat.le_refl _) (by omega) (fun k hk=>lowFD (by omega))
  obtain ⟨n1,h1,q1,L1,e1,s1,W1,i1,j1,l1⟩:=wNum' (n:=n+5) (fun k hk=>H0.good k (by omega)) (W.cons hg (Nat.le_refl n)) (by omega) (v:=3) (by omega) (by omega)
  have k1:getO h1 n = .row 17 [(D.agg [.int .i64 3,.str (F).nm,.int .i64 0,.int .i64 (F).typ.form,.int .i64 (F).typ.n,.bool (F).typ.hid,.str (F).typ.name,slD 2 encL (F).typ.levels,slD 6 encT (F).typ.kids,.int .i64 0,.int .i64 0,.bool false,.str [],.nils,.nils,.int .i64 ((F).P:Nat),.ms 7 (r) 0 (F).cs.length false])]:=by rw [s1.keep n (by omega) (by omega) (by omega),getO_hd]
  have m1:=s1.le
  obtain ⟨n2,h2,q2,L2,e2,s2,W2,i2,j2,l2⟩:=wText (n:=n1+5) (fun k hk=>s1.good k (by omega)) W1 (by omega) ⟨K.nm.1,by have:=K.nm.2; omega⟩
  have k2:getO h2 n = .row 17 [(D.agg [.int .i64 3,.str (F).nm,.int .i64 0,.int .i64 (F).typ.form,.int .i64 (F).typ.n,.bool (F).typ.hid,.str (F).typ.name,slD 2 encL (F).typ.levels,slD 6 encT (F).typ.kids,.int .i64 0,.int .i64 0,.bool false,.str [],.nils,.nils,.int .i64 ((F).P:Nat),.ms 7 (r) 0 (F).cs.length false])]:=by rw [s2.keep n (by omega) (by omega) (by omega),k1]
  have m2:=s2.le
  obtain ⟨n3,h3,q3,L3,e3,s3,W3,i3,j3,l3⟩:=wNum' (n:=n2+5) (fun k hk=>s2.good k (by omega)) W2 (by have:=K.nm.2; omega) (v:=0) (by omega) (by omega)
  have k3:getO h3 n = .row 17 [(D.agg [.int .i64 3,.str (F).nm,.int .i64 0,.int .i64 (F).typ.form,.int .i64 (F).typ.n,.bool (F).typ.hid,.str (F).typ.name,slD 2 encL (F).typ.levels,slD 6 encT (F).typ.kids,.int .i64 0,.int .i64 0,.bool false,.str [],.nils,.nils,.int .i64 ((F).P:Nat),.ms 7 (r) 0 (F).cs.length false])]:=by rw [s3.keep n (by omega) (by omega) (by omega),k2]
  have m3:=s3.le
  obtain ⟨n4,h4,q4,L4,e4,s4,W4,i4,j4,l4⟩:=K.wt (n:=n3+5) (fun k hk=>s3.good k (by omega)) W3 (by have:=K.nm.2; omega)
  have k4:getO h4 n = .row 17 [(D.agg [.int .i64 3,.str (F).nm,.int .i64 0,.int .i64 (F).typ.form,.int .i64 (F).typ.n,.bool (F).typ.hid,.str (F).typ.name,slD 2 encL (F).typ.levels,slD 6 encT (F).typ.kids,.int .i64 0,.int .i64 0,.bool false,.str [],.nils,.nils,.int .i64 ((F).P:Nat),.ms 7 (r) 0 (F).cs.length false])]:=by rw [s4.keep n (by omega) (by omega) (by omega),k3]
  have m4:=s4.le
  obtain ⟨n5,h5,q5,L5,e5,s5,W5,i5,j5,l5⟩:=wNum' (n:=n4+11) (fun k hk=>s4.good k (by omega)) W4 (by have:=K.nm.2; omega) (v := (F.P:Nat)) (by omega) (by have:=K.par; omega)
  have k5:getO h5 n = .row 17 [(D.agg [.int .i64 3,.str (F).nm,.int .i64 0,.int .i64 (F).typ.form,.int .i64 (F).typ.n,.bool (F).typ.hid,.str (F).typ.name,slD 2 encL (F).typ.levels,slD 6 encT (F).typ.kids,.int .i64 0,.int .i64 0,.bool false,.str [],.nils,.nils,.int .i64 ((F).P:Nat),.ms 7 (r) 0 (F).cs.length false])]:=by rw [s5.keep n (by omega) (by omega) (by omega),k4]
  have m5:=s5.le
  obtain ⟨n6,h6,q6,L6,e6,s6,W6,i6,j6,l6⟩:=wNum' (n:=n5+6) (fun k hk=>s5.good k (by omega)) W5 (by have:=K.nm.2; omega) (v := (F.cs.length:Nat)) (by omega) (by have:=K.cs; omega)
  have k6:getO h6 n = .row 17 [(D.agg [.int .i64 3,.str (F).nm,.int .i64 0,.int .i64 (F).typ.form,.int .i64 (F).typ.n,.bool (F).typ.hid,.str (F).typ.name,slD 2 encL (F).typ.levels,slD 6 encT (F).typ.kids,.int .i64 0,.int .i64 0,.bool false,.str [],.nils,.nils,.int .i64 ((F).P:Nat),.ms 7 (r) 0 (F).cs.length false])]:=by rw [s6.keep n (by omega) (by omega) (by omega),k5]
  have m6:=s6.le
  have lR:∀ m g,lenD m g .slice (.ms 7 r 0 F.cs.length false) = .ok (.int .i64 (F.cs.length:Nat)) m g:=fun _ _=>rfl
  have kp:∀ x,x < n→x≠w→x≠q→getO h6 x=getO h x:=fun x a b c=>by
    rw [s6.keep x (by omega) b (by omega),s5.keep x (by omega) b (by omega),s4.keep x (by omega) b (by omega),s3.keep x (by omega) b (by omega),s2.keep x (by omega) b (by omega),s1.keep x (by omega) b c,getO_tl (by omega)]
  have lL:L6.length≤L.length + (70+cT):=by have:=K.nm.2; omega
  generalize hC:100+cT+40 * (62+cC)=C
  rw [f58_eq]; unfold c58; rw [callFn_eq (by rfl)]
  simp (disch:=first|assumption|omega|(simp (disch:=first|assumption|omega) only [sB,reduceAdd,reduceLT,reduceLeDiff,reduceEqDiff,reduceMul,↓reduceIte,getO_tl];done)|fail) only [sA,↓reduceIte,reduceLT,reduceEqDiff,reduceAdd,reduceLeDiff,e1,k1,e2,k2,e3,k3,e4,k4,e5,k5,lR,e6,k6,getO_tl]
  generalize hr0:LX (cF Try.prog) (.loop l58_0) _ _ _=r0
  obtain ⟨x,e2,n7,h7,rfl,rfl,q7,L7,S7,W7,i7,j7,l7⟩:=loop_up hr0 F.cs.length
    (fun i e n' h' => (∃ q' L',Stp n h n' h' w q∧Wst w L' q' h'∧n≤q'∧q' < n'∧L'.length≤L.length + (70+cT+i * (62+cC)))∧get (po 0) e = .ptr w 0 0∧get (po 42) e = .ms 7 r 0 F.cs.length false∧get (po 43) e = .int .i64 (F.cs.length:Nat)∧get (po 44) e = .int .i64 (i:Nat))
    (fun x e n' h'=>x = .exit 1∧∃ q' L',Stp n h n' h' w q∧Wst w L' q' h'∧n≤q'∧q' < n'∧L'.length≤L.length + (70+cT+F.cs.length * (62+cC)))
    (by
      rintro e n' h' ⟨⟨q',L',S,W,z1,z2,z3⟩,g0,g42,g43,g44⟩
      unfold l58_0
      simp (disch:=first|assumption|omega|(simp (disch:=first|assumption|omega) only [sB,reduceAdd,reduceLT,reduceLeDiff,reduceEqDiff,reduceMul,↓reduceIte];done)|fail) only [sA,↓reduceIte,reduceLT,reduceEqDiff,reduceAdd,reduceLeDiff,g42,g43,g44]
      exact ⟨_,_,_,_,rfl,by simp,rfl,q',L',⟨by have:=S.le; omega,fun k hk=>S.good k (by omega),S.keep⟩,W,z1,by omega,by omega⟩)
    (by
      rintro i e n' h' hi ⟨⟨q',L',S,W,z1,z2,z3⟩,g0,g42,g43,g44⟩
      have zr:getO h' r = .row 7 (F.cs.map encC):=by rw [S.keep r hr ne1 ne2]; exact yr
      have eg:=getC hi
      rw [encC_eq] at eg
      obtain ⟨y1,y2,y3,y4⟩:=K.ctor F.cs[i] (List.getElem_mem _)
      generalize F.cs[i]=x at eg y1 y2 y3 y4
      have hsl:=S.le
      have lm:i * (62+cC) + (62+cC)≤40 * (62+cC):=by
        rw [← Nat.succ_mul]; exact Nat.mul_le_mul_right _ (by have:=K.cs; omega)
      have fl:flat (.agg [.str x.1,.int .i64 x.2.form,.int .i64 x.2.n,.bool x.2.hid,.str x.2.name,slD 2 encL x.2.levels,slD 6 encT x.2.kids])=true:=by rw [flat_agg]; simp [flat1_slD,flat1_int,flat1_str,show flat1 (.bool x.2.hid)=true from rfl]
      have H1:Hp n' h' (n'+4) ((n'+3,.row 7 [.agg [.str x.1,.int .i64 x.2.form,.int .i64 x.2.n,.bool x.2.hid,.str x.2.name,slD 2 encL x.2.levels,slD 6 encT x.2.kids]])::h') := (Hp.start S.good).box (r:=n'+3) (m:=n'+4) (by omega) (by omega) fl
      obtain ⟨n8,h8,q8,L8,e8,s8,W8,i8,j8,l8⟩:=wText (n:=n'+9) (fun k hk=>H1.good k (by omega)) (W.cons (x:=n'+3) S.good (by omega)) (by omega) ⟨y1.1,by have:=y1.2; omega⟩
      have k8:getO h8 (n'+3) = .row 7 [.agg [.str x.1,.int .i64 x.2.form,.int .i64 x.2.n,.bool x.2.hid,.str x.2.name,slD 2 encL x.2.levels,slD 6 encT x.2.kids]]:=by rw [s8.keep (n'+3) (by omega) (by omega) (by omega),getO_hd]
      have m8:=s8.le
      obtain ⟨n9,h9,q9,L9,e9,s9,W9,i9,j9,l9⟩:=y4 (n:=n8+5) (fun k hk=>s8.good k (by omega)) W8 (by have:=y1.2; omega)
      have m9:=s9.le
      unfold l58_0
      simp (disch:=first|assumption|omega|(simp (disch:=first|assumption|omega) only [sB,reduceAdd,reduceLT,reduceLeDiff,reduceEqDiff,reduceMul,↓reduceIte,getO_tl];done)|fail) only [sA,↓reduceIte,reduceLT,reduceEqDiff,reduceAdd,reduceLeDiff,g0,g42,g43,g44,iaddr_ms,zr,eg,e8,k8,e9,getO_tl]
      refine ⟨_,_,_,_,rfl,.inl ⟨rfl,⟨q9,L9,⟨by omega,fun k hk=>s9.good k (by omega),fun y a b c=>?_⟩,W9,by omega,by omega,?_⟩,by simp +decide only [sG,g0],by simp +decide only [sG,g42],by simp +decide only [sG,g43],by simp +decide only [sG]⟩⟩
      · rw [s9.keep y (by omega) b (by omega),s8.keep y (by omega) b (by omega),getO_tl (by omega)]
        exact S.keep y a b c
      · have:=y1.2
        rw [Nat.succ_mul]; omega)
    ⟨⟨q6,L6,⟨by omega,fun k hk=>s6.good k (by omega),kp⟩,W6,by omega,by omega,by omega⟩,by simp +decide only [sG],by simp +decide only [sG],by simp +decide only [sG],by simp (disch:=first|assumption|omega|(simp (disch:=first|assumption|omega) only [sB,reduceAdd,reduceLT,reduceLeDiff,reduceEqDiff,reduceMul,↓reduceIte];done)|fail) only [sA,↓reduceIte,reduceLT,reduceEqDiff,reduceAdd,reduceLeDiff]⟩
  have lm:F.cs.length * (62+cC)≤40 * (62+cC):=Nat.mul_le_mul_right _ K.cs
  have:=S7.le
  simp (disch:=first|assumption|omega|(simp (disch:=first|assumption|omega) only [sB,reduceAdd,reduceLT,reduceLeDiff,reduceEqDiff,reduceMul,↓reduceIte];done)|fail) only [sA,↓reduceIte,reduceLT,reduceEqDiff,reduceAdd,reduceLeDiff]
  exact wok_end hw W7 (by omega) (by omega) (by omega) (fun k hk=>S7.good k (by omega)) S7.keep
theorem fin_any {n m:Nat} {h:Hps} {d:D} (hnm:n≤m) (hg:Gd m h):∃ d' n' h',(d'=d ∨ (d'=frz h n 60 d∧hasJ 20 d'=false))∧finishD n m h d = .ok d' n' h'∧n≤n'∧Gd n' h'∧∀ x,x < n→getO h' x=getO h x:=by
  cases hb:Bool.or (hasP n 20 d) (leak n h) with
  | true=>exact ⟨d,m,h,.inl rfl,by unfold finishD; rw [hb],hnm,hg,fun _ _=>rfl⟩
  | false =>
    cases hc:Bool.or (hasJ 20 (frz h n 60 d)) (hasR n 20 (frz h n 60 d)) with
    | true=>exact ⟨d,m,h,.inl rfl,by unfold finishD; rw [hb]; show finishF n m h d (frz h n 60 d)=_; unfold finishF; rw [hc],hnm,hg,fun _ _=>rfl⟩
    | false =>
      refine ⟨frz h n 60 d,n,dropFrom n h,.inr ⟨rfl,(Bool.or_eq_false_iff.1 hc).1⟩,by unfold finishD; rw [hb]; show finishF n m h d (frz h n 60 d)=_; unfold finishF; rw [hc],Nat.le_refl _,fun k hk p hp=>?_,fun x hx=>dropFrom_get hx⟩
      obtain ⟨h1,h2⟩:=dropFrom_mem hp
      rw [Bool.or_eq_false_iff] at hb
      exact ⟨by omega,lowO_mono hk (leak_iff.1 hb.2 p h1 h2)⟩
theorem okD_nj {a:D} (h:a ≠ .junk) (m:Nat) (g:Hps):okD m g a = .ok a m g:=by
  cases a <;> first | rfl | exact absurd rfl h
theorem nj_okD {a:D} (h:∀ m g,okD m g a = .ok a m g):a ≠ .junk:=fun e=>by
  subst e; have:=h 0 []; cases this
theorem fin_two {n m:Nat} {h:Hps} {a:D} {v:Int} (ha:a ≠ .junk) (hnm:n≤m) (hg:Gd m h):∃ a' n' h',finishD n m h (.tup [a,.int .i64 v]) = .ok (.tup [a',.int .i64 v]) n' h'∧a' ≠ .junk∧n≤n'∧Gd n' h'∧∀ x,x < n→getO h' x=getO h x:=by
  obtain ⟨d',n',h',hd,e,r1,r2,r3⟩:=fin_any (d := .tup [a,.int .i64 v]) hnm hg
  rcases hd with rfl | ⟨rfl,hj⟩
  · exact ⟨_,n',h',e,ha,r1,r2,r3⟩
  · refine ⟨frz h n 59 a,n',h',e,fun ej=>?_,r1,r2,r3⟩
    have hj2:Bool.not (allL (fun d=>Bool.not (hasJ 19 d)) [frz h n 59 a,.int .i64 v])=false:=hj
    rw [ej] at hj2
    cases hj2
set_option maxHeartbeats 4000000 in
theorem pTold {n:Nat} {h:Hps} (hg:Gd n h) {r q:Nat} {L:List D} (W:Wst r L q h) (hL:L.length < 900000):∃ a n' h',callFn (LX (cF Try.prog)) n h [.ptr r 0 0] (cF Try.prog 59) = .ok (.tup [a,.int .i64 0]) n' h'∧a ≠ .junk∧n≤n'∧Gd n' h'∧∀ x,x < n→getO h' x=getO h x:=by
  have hgn:=hg n (Nat.le_refl _)
  obtain ⟨b,g1,hb⟩:=W.get
  have o1:=fun m g => (hb m g).1
  have o2:=fun m g => (hb m g).2
  have q1:¬ ((L.length:Nat):Int) > 1000000:=by omega
  rw [f59_eq]; unfold c59; rw [callFn_eq (by rfl)]
  simp (disch:=first|assumption|omega|(simp (disch:=first|assumption|omega) only [sB,reduceAdd,reduceLT,reduceLeDiff,reduceEqDiff,reduceMul,↓reduceIte,getO_tl];done)|fail) only [sA,↓reduceIte,reduceLT,reduceEqDiff,reduceAdd,reduceLeDiff,g1,o1,o2,q1,getO_tl]
  exact fin_two (nj_okD o1) (by omega) (fun k hk=>hg k (by omega))
set_option maxRecDepth 10000 in
set_option maxHeartbeats 16000000 in
theorem pDecls {F:Fa} {r x n cT cC:Nat} {h:Hps} (hg:Gd n h) (hr:r < n) (hx:x < n) (yr:getO h r = .row 7 (F.cs.map encC)) (yx:getO h x = .row 17 [(D.agg [.int .i64 3,.str (F).nm,.int .i64 0,.int .i64 (F).typ.form,.int .i64 (F).typ.n,.bool (F).typ.hid,.str (F).typ.name,slD 2 encL (F).typ.levels,slD 6 encT (F).typ.kids,.int .i64 0,.int .i64 0,.bool false,.str [],.nils,.nils,.int .i64 ((F).P:Nat),.ms 7 (r) 0 (F).cs.length false])]) (K:Fok F cT cC) :
    ∃ a n' h',callFn (LX (cF Try.prog)) n h [.ms 17 x 0 1 true] (cF Try.prog 28) = .ok (.tup [a,.int .i64 0]) n' h'∧a ≠ .junk∧n≤n'∧Gd n' h'∧∀ y,y < n→getO h' y=getO h y:=by
  have hgn:=hg n (Nat.le_refl _)
  have hG:∀ m,n≤m→Gd m h:=fun m hm=>hg.mono hm
  have few:=K.few
  have ld:∀ m g,lenD m g .slice (.ms 17 x 0 1 true) = .ok (.int .i64 1) m g:=fun _ _=>rfl
  have ia:∀ m g,iaddrD m g 17 (.ms 17 x 0 1 true) 0 = .ok (.ptr x 0 0) m g:=fun _ _=>rfl
  have gx : ([(D.agg [.int .i64 3,.str (F).nm,.int .i64 0,.int .i64 (F).typ.form,.int .i64 (F).typ.n,.bool (F).typ.hid,.str (F).typ.name,slD 2 encL (F).typ.levels,slD 6 encT (F).typ.kids,.int .i64 0,.int .i64 0,.bool false,.str [],.nils,.nils,.int .i64 ((F).P:Nat),.ms 7 (r) 0 (F).cs.length false])]:List D).getD 0 .junk = (D.agg [.int .i64 3,.str (F).nm,.int .i64 0,.int .i64 (F).typ.form,.int .i64 (F).typ.n,.bool (F).typ.hid,.str (F).typ.name,slD 2 encL (F).typ.levels,slD 6 encT (F).typ.kids,.int .i64 0,.int .i64 0,.bool false,.str [],.nils,.nils,.int .i64 ((F).P:Nat),.ms 7 (r) 0 (F).cs.length false]):=rfl
  have A0:∀ m,n≤m→Gd (m+1) ((m,.row 17 [(D.agg [.int .i64 3,.str (F).nm,.int .i64 0,.int .i64 (F).typ.form,.int .i64 (F).typ.n,.bool (F).typ.hid,.str (F).typ.name,slD 2 encL (F).typ.levels,slD 6 encT (F).typ.kids,.int .i64 0,.int .i64 0,.bool false,.str [],.nils,.nils,.int .i64 ((F).P:Nat),.ms 7 (r) 0 (F).cs.length false])])::h):=fun m hm k hk=>good_cons.2 ⟨by omega,lowFD (by omega),hg k (by omega)⟩
  have c1:∀ m y,n≤y→y < m→callFn (LX (cF Try.prog)) m ((y,.row 17 [(D.agg [.int .i64 3,.str (F).nm,.int .i64 0,.int .i64 (F).typ.form,.int .i64 (F).typ.n,.bool (F).typ.hid,.str (F).typ.name,slD 2 encL (F).typ.levels,slD 6 encT (F).typ.kids,.int .i64 0,.int .i64 0,.bool false,.str [],.nils,.nils,.int .i64 ((F).P:Nat),.ms 7 (r) 0 (F).cs.length false])])::h) [(D.agg [.int .i64 3,.str (F).nm,.int .i64 0,.int .i64 (F).typ.form,.int .i64 (F).typ.n,.bool (F).typ.hid,.str (F).typ.name,slD 2 encL (F).typ.levels,slD 6 encT (F).typ.kids,.int .i64 0,.int .i64 0,.bool false,.str [],.nils,.nils,.int .i64 ((F).P:Nat),.ms 7 (r) 0 (F).cs.length false])] (cF Try.prog 56) = .ok (.int .i64 0) m ((y,.row 17 [(D.agg [.int .i64 3,.str (F).nm,.int .i64 0,.int .i64 (F).typ.form,.int .i64 (F).typ.n,.bool (F).typ.hid,.str (F).typ.name,slD 2 encL (F).typ.levels,slD 6 encT (F).typ.kids,.int .i64 0,.int .i64 0,.bool false,.str [],.nils,.nils,.int .i64 ((F).P:Nat),.ms 7 (r) 0 (F).cs.length false])])::h):=fun m y hy hm=>pBask (fun k hk=>A0 y hy k (by omega)) (by omega) (by rw [getO_tl (by omega)]; exact yr) K
  rw [f28_eq]; unfold c28; rw [callFn_eq (by rfl)]
  simp (disch:=first|assumption|omega|(simp (disch:=first|assumption|omega) only [sB,reduceAdd,reduceLT,reduceLeDiff,reduceEqDiff,reduceMul,↓reduceIte];done)|fail) only [sA,↓reduceIte,reduceLT,reduceEqDiff,reduceAdd,reduceLeDiff,ld]
  rw [LX_loop]
  unfold l28_0
  simp (disch:=first|assumption|omega|(simp (disch:=first|assumption|omega) only [sB,reduceAdd,reduceLT,reduceLeDiff,reduceEqDiff,reduceMul,↓reduceIte];done)|fail) only [sA,↓reduceIte,reduceLT,reduceEqDiff,reduceAdd,reduceLeDiff,ld,ia,yx,gx,c1]
  rw [LX_loop]
  have GB:∀ k,n+24≤k→Gd k ((n+23,.row 1 [.agg [.nils]]) :: (n+11,.row 17 [(D.agg [.int .i64 3,.str (F).nm,.int .i64 0,.int .i64 (F).typ.form,.int .i64 (F).typ.n,.bool (F).typ.hid,.str (F).typ.name,slD 2 encL (F).typ.levels,slD 6 encT (F).typ.kids,.int .i64 0,.int .i64 0,.bool false,.str [],.nils,.nils,.int .i64 ((F).P:Nat),.ms 7 (r) 0 (F).cs.length false])])::h):=fun m hm k hk=>good_cons.2 ⟨by omega,rfl,A0 (n+11) (by omega) k (by omega)⟩
  have W0:Wst (n+23) [] (n+23) ((n+23,.row 1 [.agg [.nils]]) :: (n+11,.row 17 [(D.agg [.int .i64 3,.str (F).nm,.int .i64 0,.int .i64 (F).typ.form,.int .i64 (F).typ.n,.bool (F).typ.hid,.str (F).typ.name,slD 2 encL (F).typ.levels,slD 6 encT (F).typ.kids,.int .i64 0,.int .i64 0,.bool false,.str [],.nils,.nils,.int .i64 ((F).P:Nat),.ms 7 (r) 0 (F).cs.length false])])::h):=⟨fun d hd => (by cases hd),.inl ⟨rfl,rfl,getO_hd⟩⟩
  obtain ⟨n1,h1,q1,L1,e1,s1,W1,i1,j1,l1⟩:=wNum' (n:=n+29) (GB _ (by omega)) W0 (by simp) (v:=1) (by omega) (by omega)
  have m1:=s1.le
  replace l1:L1.length≤1:=l1
  have yr1:getO h1 r = .row 7 (F.cs.map encC):=by rw [s1.keep r (by omega) (by omega) (by omega),getO_tl (by omega),getO_tl (by omega)]; exact yr
  have yx1:getO h1 x = .row 17 [(D.agg [.int .i64 3,.str (F).nm,.int .i64 0,.int .i64 (F).typ.form,.int .i64 (F).typ.n,.bool (F).typ.hid,.str (F).typ.name,slD 2 encL (F).typ.levels,slD 6 encT (F).typ.kids,.int .i64 0,.int .i64 0,.bool false,.str [],.nils,.nils,.int .i64 ((F).P:Nat),.ms 7 (r) 0 (F).cs.length false])]:=by rw [s1.keep x (by omega) (by omega) (by omega),getO_tl (by omega),getO_tl (by omega)]; exact yx
  simp (disch:=first|assumption|omega|(simp (disch:=first|assumption|omega) only [sB,reduceAdd,reduceLT,reduceLeDiff,reduceEqDiff,reduceMul,↓reduceIte];done)|fail) only [sA,↓reduceIte,reduceLT,reduceEqDiff,reduceAdd,reduceLeDiff,ld,e1]
  rw [LX_loop]
  unfold l28_1
  simp (disch:=first|assumption|omega|(simp (disch:=first|assumption|omega) only [sB,reduceAdd,reduceLT,reduceLeDiff,reduceEqDiff,reduceMul,↓reduceIte];done)|fail) only [sA,↓reduceIte,reduceLT,reduceEqDiff,reduceAdd,reduceLeDiff,ld,ia,yx1,gx]
  have A1:∀ k,n1+8≤k→Gd k ((n1+7,.row 17 [(D.agg [.int .i64 3,.str (F).nm,.int .i64 0,.int .i64 (F).typ.form,.int .i64 (F).typ.n,.bool (F).typ.hid,.str (F).typ.name,slD 2 encL (F).typ.levels,slD 6 encT (F).typ.kids,.int .i64 0,.int .i64 0,.bool false,.str [],.nils,.nils,.int .i64 ((F).P:Nat),.ms 7 (r) 0 (F).cs.length false])])::h1):=fun m hm k hk=>good_cons.2 ⟨by omega,lowFD (by omega),s1.good k (by omega)⟩
  obtain ⟨n2,h2,q2,L2,e2,s2,W2,i2,j2,l2⟩:=wDecl (n:=n1+12) (r:=r) (A1 _ (by omega)) (by omega) (by rw [getO_tl (by omega)]; exact yr1) K (W1.cons (x:=n1+7) s1.good (by omega)) (by omega)
  have m2:=s2.le
  simp (disch:=first|assumption|omega|(simp (disch:=first|assumption|omega) only [sB,reduceAdd,reduceLT,reduceLeDiff,reduceEqDiff,reduceMul,↓reduceIte];done)|fail) only [sA,↓reduceIte,reduceLT,reduceEqDiff,reduceAdd,reduceLeDiff,e2]
  rw [LX_loop]
  simp (disch:=first|assumption|omega|(simp (disch:=first|assumption|omega) only [sB,reduceAdd,reduceLT,reduceLeDiff,reduceEqDiff,reduceMul,↓reduceIte];done)|fail) only [sA,↓reduceIte,reduceLT,reduceEqDiff,reduceAdd,reduceLeDiff,ld]
  obtain ⟨a,n3,h3,e3,nj,m3,g3,k3⟩:=pTold (n:=n2+6) (fun k hk=>s2.good k (by omega)) W2 (by omega)
  have o3:=okD_nj nj
  simp (disch:=first|assumption|omega|(simp (disch:=first|assumption|omega) only [sB,reduceAdd,reduceLT,reduceLeDiff,reduceEqDiff,reduceMul,↓reduceIte];done)|fail) only [sA,↓reduceIte,reduceLT,reduceEqDiff,reduceAdd,reduceLeDiff,e3,o3]
  obtain ⟨a',n4,h4,e4,nj4,m4,g4,k4⟩:=fin_two (v:=0) nj (n:=n) (m:=n3+5) (h:=h3) (by omega) (fun k hk=>g3 k (by omega))
  refine ⟨a',n4,h4,?_,nj4,m4,g4,fun y hy=>by rw [k4 y hy,k3 y (by omega),s2.keep y (by omega) (by omega) (by omega),getO_tl (by omega),s1.keep y (by omega) (by omega) (by omega),getO_tl (by omega),getO_tl (by omega)]⟩
  exact e4
theorem okE_FD {F:Fa} {r:Nat} {m:Nat} {g:Hps}:bslD m g 17 [(D.agg [.int .i64 3,.str (F).nm,.int .i64 0,.int .i64 (F).typ.form,.int .i64 (F).typ.n,.bool (F).typ.hid,.str (F).typ.name,slD 2 encL (F).typ.levels,slD 6 encT (F).typ.kids,.int .i64 0,.int .i64 0,.bool false,.str [],.nils,.nils,.int .i64 ((F).P:Nat),.ms 7 (r) 0 (F).cs.length false])] = .ok (.ms 17 m 0 1 true) m ((m,.row 17 [(D.agg [.int .i64 3,.str (F).nm,.int .i64 0,.int .i64 (F).typ.form,.int .i64 (F).typ.n,.bool (F).typ.hid,.str (F).typ.name,slD 2 encL (F).typ.levels,slD 6 encT (F).typ.kids,.int .i64 0,.int .i64 0,.bool false,.str [],.nils,.nils,.int .i64 ((F).P:Nat),.ms 7 (r) 0 (F).cs.length false])])::g):=by
  have e0:clo 19 (.ms 7 r 0 F.cs.length false)=false:=rfl
  have e1:okE 17 (D.agg [.int .i64 3,.str (F).nm,.int .i64 0,.int .i64 (F).typ.form,.int .i64 (F).typ.n,.bool (F).typ.hid,.str (F).typ.name,slD 2 encL (F).typ.levels,slD 6 encT (F).typ.kids,.int .i64 0,.int .i64 0,.bool false,.str [],.nils,.nils,.int .i64 ((F).P:Nat),.ms 7 (r) 0 (F).cs.length false])=false:=by
    show Bool.and (okF 17 (D.agg [.int .i64 3,.str (F).nm,.int .i64 0,.int .i64 (F).typ.form,.int .i64 (F).typ.n,.bool (F).typ.hid,.str (F).typ.name,slD 2 encL (F).typ.levels,slD 6 encT (F).typ.kids,.int .i64 0,.int .i64 0,.bool false,.str [],.nils,.nils,.int .i64 ((F).P:Nat),.ms 7 (r) 0 (F).cs.length false])) (clo 20 (D.agg [.int .i64 3,.str (F).nm,.int .i64 0,.int .i64 (F).typ.form,.int .i64 (F).typ.n,.bool (F).typ.hid,.str (F).typ.name,slD 2 encL (F).typ.levels,slD 6 encT (F).typ.kids,.int .i64 0,.int .i64 0,.bool false,.str [],.nils,.nils,.int .i64 ((F).P:Nat),.ms 7 (r) 0 (F).cs.length false]))=false
    rw [clo_agg]
    simp only [List.all_cons,List.all_nil,e0,Bool.false_and,Bool.and_false,Bool.and_true]
  have e2:okF 17 (D.agg [.int .i64 3,.str (F).nm,.int .i64 0,.int .i64 (F).typ.form,.int .i64 (F).typ.n,.bool (F).typ.hid,.str (F).typ.name,slD 2 encL (F).typ.levels,slD 6 encT (F).typ.kids,.int .i64 0,.int .i64 0,.bool false,.str [],.nils,.nils,.int .i64 ((F).P:Nat),.ms 7 (r) 0 (F).cs.length false])=true:=rfl
  show Bool.rec (motive:=fun _=>Rd) (ifR (allL (okF 17) [(D.agg [.int .i64 3,.str (F).nm,.int .i64 0,.int .i64 (F).typ.form,.int .i64 (F).typ.n,.bool (F).typ.hid,.str (F).typ.name,slD 2 encL (F).typ.levels,slD 6 encT (F).typ.kids,.int .i64 0,.int .i64 0,.bool false,.str [],.nils,.nils,.int .i64 ((F).P:Nat),.ms 7 (r) 0 (F).cs.length false])]) (.ok (.ms 17 m 0 (lenL [(D.agg [.int .i64 3,.str (F).nm,.int .i64 0,.int .i64 (F).typ.form,.int .i64 (F).typ.n,.bool (F).typ.hid,.str (F).typ.name,slD 2 encL (F).typ.levels,slD 6 encT (F).typ.kids,.int .i64 0,.int .i64 0,.bool false,.str [],.nils,.nils,.int .i64 ((F).P:Nat),.ms 7 (r) 0 (F).cs.length false])]) true) m ((m,.row 17 [(D.agg [.int .i64 3,.str (F).nm,.int .i64 0,.int .i64 (F).typ.form,.int .i64 (F).typ.n,.bool (F).typ.hid,.str (F).typ.name,slD 2 encL (F).typ.levels,slD 6 encT (F).typ.kids,.int .i64 0,.int .i64 0,.bool false,.str [],.nils,.nils,.int .i64 ((F).P:Nat),.ms 7 (r) 0 (F).cs.length false])])::g))) (.ok (.sl 17 [(D.agg [.int .i64 3,.str (F).nm,.int .i64 0,.int .i64 (F).typ.form,.int .i64 (F).typ.n,.bool (F).typ.hid,.str (F).typ.name,slD 2 encL (F).typ.levels,slD 6 encT (F).typ.kids,.int .i64 0,.int .i64 0,.bool false,.str [],.nils,.nils,.int .i64 ((F).P:Nat),.ms 7 (r) 0 (F).cs.length false])] [] true) m g) (allL (okE 17) [(D.agg [.int .i64 3,.str (F).nm,.int .i64 0,.int .i64 (F).typ.form,.int .i64 (F).typ.n,.bool (F).typ.hid,.str (F).typ.name,slD 2 encL (F).typ.levels,slD 6 encT (F).typ.kids,.int .i64 0,.int .i64 0,.bool false,.str [],.nils,.nils,.int .i64 ((F).P:Nat),.ms 7 (r) 0 (F).cs.length false])])=_
  rw [allL_eq,allL_eq,List.all_cons,List.all_cons,List.all_nil,e1,e2]
  rfl
set_option maxHeartbeats 16000000 in
theorem pAsk {F:Fa} {r n cT cC:Nat} {l:List Tm} {t:Tm} {h:Hps} (hg:Gd n h) (hr:r < n) (yr:getO h r = .row 7 (F.cs.map encC)) (K:Fok F cT cC) (ht:formedT F.typ.abs=true) (hs:sizeT F.typ.abs≤100000) (h1:strp F.typ = (l,t)) (h2:t.form=2)
    (hP:F.P≤l.length) (hl:0 < t.levels.el.length) (h3:t.levels.el[0]=F.so) (h4:F.Ps=hdT l F.P) (h5:F.Is = (Sl.app l).cut F.P l.length) :
    ∃ n' h' q,callFn (LX (cF Try.prog)) n h [(D.agg [.int .i64 3,.str (F).nm,.int .i64 0,.int .i64 (F).typ.form,.int .i64 (F).typ.n,.bool (F).typ.hid,.str (F).typ.name,slD 2 encL (F).typ.levels,slD 6 encT (F).typ.kids,.int .i64 0,.int .i64 0,.bool false,.str [],.nils,.nils,.int .i64 ((F).P:Nat),.ms 7 (r) 0 (F).cs.length false])] (cF Try.prog 20) = .ok (.tup [.ptr q 0 0,.int .i64 0]) n' h'∧n≤n'∧Gd n' h'∧Fat F q r n' h'∧n≤q∧∀ y,y < n→getO h' y=getO h y:=by
  have hgn:=hg n (Nat.le_refl _)
  have A0:∀ m,n+1≤m→Gd m ((n,.row 17 [(D.agg [.int .i64 3,.str (F).nm,.int .i64 0,.int .i64 (F).typ.form,.int .i64 (F).typ.n,.bool (F).typ.hid,.str (F).typ.name,slD 2 encL (F).typ.levels,slD 6 encT (F).typ.kids,.int .i64 0,.int .i64 0,.bool false,.str [],.nils,.nils,.int .i64 ((F).P:Nat),.ms 7 (r) 0 (F).cs.length false])])::h):=fun m hm k hk=>good_cons.2 ⟨by omega,lowFD (by omega),hg k (by omega)⟩
  have A1:∀ m x,n+1≤x→x < m→Gd m ((x,.row 17 [(D.agg [.int .i64 3,.str (F).nm,.int .i64 0,.int .i64 (F).typ.form,.int .i64 (F).typ.n,.bool (F).typ.hid,.str (F).typ.name,slD 2 encL (F).typ.levels,slD 6 encT (F).typ.kids,.int .i64 0,.int .i64 0,.bool false,.str [],.nils,.nils,.int .i64 ((F).P:Nat),.ms 7 (r) 0 (F).cs.length false])]) :: (n,.row 17 [(D.agg [.int .i64 3,.str (F).nm,.int .i64 0,.int .i64 (F).typ.form,.int .i64 (F).typ.n,.bool (F).typ.hid,.str (F).typ.name,slD 2 encL (F).typ.levels,slD 6 encT (F).typ.kids,.int .i64 0,.int .i64 0,.bool false,.str [],.nils,.nils,.int .i64 ((F).P:Nat),.ms 7 (r) 0 (F).cs.length false])])::h):=fun m x hx hm k hk=>good_cons.2 ⟨by omega,lowFD (by omega),A0 k (by omega) k (Nat.le_refl _)⟩
  have b1:=fun m g=>okE_FD (F:=F) (r:=r) (m:=m) (g:=g)
  obtain ⟨a,n1,h1',e1,nj,m1,g1,k1⟩:=pDecls (r:=r) (n:=n+6) (x:=n+4) (h := (n+4,.row 17 [(D.agg [.int .i64 3,.str (F).nm,.int .i64 0,.int .i64 (F).typ.form,.int .i64 (F).typ.n,.bool (F).typ.hid,.str (F).typ.name,slD 2 encL (F).typ.levels,slD 6 encT (F).typ.kids,.int .i64 0,.int .i64 0,.bool false,.str [],.nils,.nils,.int .i64 ((F).P:Nat),.ms 7 (r) 0 (F).cs.length false])]) :: (n,.row 17 [(D.agg [.int .i64 3,.str (F).nm,.int .i64 0,.int .i64 (F).typ.form,.int .i64 (F).typ.n,.bool (F).typ.hid,.str (F).typ.name,slD 2 encL (F).typ.levels,slD 6 encT (F).typ.kids,.int .i64 0,.int .i64 0,.bool false,.str [],.nils,.nils,.int .i64 ((F).P:Nat),.ms 7 (r) 0 (F).cs.length false])])::h) (A1 _ _ (by omega) (by omega)) (by omega) (by omega) (by rw [getO_tl (by omega),getO_tl (by omega)]; exact yr) (by rw [getO_hd]) K
  have o1:=okD_nj nj
  have yn:getO h1' n = .row 17 [(D.agg [.int .i64 3,.str (F).nm,.int .i64 0,.int .i64 (F).typ.form,.int .i64 (F).typ.n,.bool (F).typ.hid,.str (F).typ.name,slD 2 encL (F).typ.levels,slD 6 encT (F).typ.kids,.int .i64 0,.int .i64 0,.bool false,.str [],.nils,.nils,.int .i64 ((F).P:Nat),.ms 7 (r) 0 (F).cs.length false])]:=by rw [k1 n (by omega),getO_tl (by omega),getO_hd]
  obtain ⟨n2,h2',q,e2,H2,X2,q2⟩:=pOf (n:=n1+10) (F:=F) (r:=r) (fun k hk=>g1 k (by omega)) (by omega) (by rw [k1 r (by omega),getO_tl (by omega),getO_tl (by omega)]; exact yr) ht hs h1 h2 hP hl h3 h4 h5 (by have:=K.par; omega)
  have m2:=H2.le
  rw [f20_eq]; unfold c20; rw [callFn_eq (by rfl)]
  simp (disch:=first|assumption|omega|(simp (disch:=first|assumption|omega) only [sB,reduceAdd,reduceLT,reduceLeDiff,reduceEqDiff,reduceMul,↓reduceIte];done)|fail) only [sA,↓reduceIte,reduceLT,reduceEqDiff,reduceAdd,reduceLeDiff,b1,e1,o1,yn,e2]
  have hp:hasP n 20 (.tup [.ptr q 0 0,.int .i64 0])=true:=by
    show Bool.not (allL (fun d=>Bool.not (hasP n 19 d)) [.ptr q 0 0,.int .i64 0])=true
    rw [allL_eq,List.all_cons,show hasP n 19 (.ptr q 0 0)=Nat.ble n q from rfl,ble_iff,decide_eq_true (by omega)]
    rfl
  rw [fin_hasP hp]
  refine ⟨_,_,q,rfl,by omega,fun k hk=>H2.good k (by omega),X2.up (by omega),by omega,fun y hy=>?_⟩
  rw [H2.get (by omega),k1 y (by omega),getO_tl (by omega),getO_tl (by omega)]
end Go.Proofs.Ytpbpmpabndgeeaa
