/- The eliminator's type, a method's type, a constructor: what package elim answers. No condition but sizes. -/
import Derived.Test.YtpbpmpabndgeeaaEQ
set_option linter.unusedSimpArgs false
set_option linter.unusedVariables false
namespace Go.Proofs.Ytpbpmpabndgeeaa
open Go
open Nat (reduceAdd reduceLT reduceLeDiff reduceEqDiff reduceMul)

structure Fgd (F:Fa) (A cT cC:Nat) (lt:List Tm) (tt:Tm) (ty t:Tm) (l:List Tm) (W:Sl Tm) (R:Nat→Bool) (MT:Nat→Tm):Prop where
  ok:Fok F cT cC
  ht:formedT F.typ.abs=true
  hs:sizeT F.typ.abs≤100000
  h1:strp F.typ = (lt,tt)
  h2:tt.form=2
  hP:F.P≤lt.length
  hl:0 < tt.levels.el.length
  h3:tt.levels.el[0]=F.so
  h4:F.Ps=hdT lt F.P
  h5:F.Is = (Sl.app lt).cut F.P lt.length
  mkr:∀ f r k,k < F.cs.length→∃ nm,Mkr F f r k A nm ty l t (slD 6 encT W) R
  num:1≤F.cs.length
  sm:∀ k,k < F.cs.length→Sm (MT k)
  meth:∀ f r k,k < F.cs.length→∀ m' g' q,Gd m' g'→Fat F f r m' g'→Mat ((Sl.app l).cut F.Ps.el.length l.length) (recs R A) (slD 6 encT W) q m' g'→callFn (LX (cF Try.prog)) m' g' [.ptr f 0 0,.int .i64 (k:Nat),.ptr q 0 0] (cF Try.prog 24) = .ok (encT (MT k)) m' g'
  lP:F.Ps.el.length≤1000
  lI:F.Is.el.length≤1000
  sI:∀ x,x∈F.Is.el→Sm x
  q1:∀ r,sameO (Ob.row 21 [.agg [.int .i64 3,.str (F).nm,.int .i64 0,.int .i64 (F).typ.form,.int .i64 (F).typ.n,.bool (F).typ.hid,.str (F).typ.name,slD 2 encL (F).typ.levels,slD 6 encT (F).typ.kids,.int .i64 0,.int .i64 0,.bool false,.str [],.nils,.nils,.int .i64 ((F).P:Nat),.ms 7 (r) 0 (F).cs.length false,slD 6 encT (F).Ps,slD 6 encT (F).Is,.int .i64 (F).so.n,slD 2 encV (F).so.vs]]) (Ob.row 21 [.agg [.int .i64 3,.str (F).nm,.int .i64 0,.int .i64 (F).typ.form,.int .i64 (F).typ.n,.bool (F).typ.hid,.str (F).typ.name,slD 2 encL (F).typ.levels,slD 6 encT (F).typ.kids,.int .i64 0,.int .i64 0,.bool false,.str [],.nils,.nils,.int .i64 ((F).P:Nat),.ms 7 (r) 0 (F).cs.length false,slD 6 encT (F).Ps,slD 6 encT (F).Is,.int .i64 (F).so.n,slD 2 encV (F).so.vs]])=true
  q2:sameO (.row 7 (F.cs.map encC)) (.row 7 (F.cs.map encC))=true
def resE (F:Fa) (MT:Nat→Tm):Tm:=elimT F.nm F.Ps.el.length F.Ps.el F.Is.el (methsT MT F.cs.length)
set_option maxHeartbeats 8000000 in
theorem pElimType {F:Fa} {A cT cC r n:Nat} {lt l:List Tm} {tt ty t:Tm} {W:Sl Tm} {R:Nat→Bool} {MT:Nat→Tm} {h:Hps} (K:Fgd F A cT cC lt tt ty t l W R MT) (hg:Gd n h) (hr:r < n) (yr:getO h r = .row 7 (F.cs.map encC))
    (hs:Sm (resE F MT)) (h1:saneT (resE F MT).abs=true) (hc:checkT (resE F MT).abs=0) :
    ∃ n' h',callFn (LX (cF Try.prog)) n h [(D.agg [.int .i64 3,.str (F).nm,.int .i64 0,.int .i64 (F).typ.form,.int .i64 (F).typ.n,.bool (F).typ.hid,.str (F).typ.name,slD 2 encL (F).typ.levels,slD 6 encT (F).typ.kids,.int .i64 0,.int .i64 0,.bool false,.str [],.nils,.nils,.int .i64 ((F).P:Nat),.ms 7 (r) 0 (F).cs.length false])] (cF Try.prog 9) = .ok (.tup [encT (copyT (resE F MT)),.int .i64 0]) n' h'∧n≤n'∧Gd n' h'∧∀ y,y < n→getO h' y=getO h y:=by
  have hgn:=hg n (Nat.le_refl _)
  have A0:∀ m,n+1≤m→Gd m ((n,.row 17 [(D.agg [.int .i64 3,.str (F).nm,.int .i64 0,.int .i64 (F).typ.form,.int .i64 (F).typ.n,.bool (F).typ.hid,.str (F).typ.name,slD 2 encL (F).typ.levels,slD 6 encT (F).typ.kids,.int .i64 0,.int .i64 0,.bool false,.str [],.nils,.nils,.int .i64 ((F).P:Nat),.ms 7 (r) 0 (F).cs.length false])])::h):=fun m hm k hk=>good_cons.2 ⟨by omega,lowFD (by omega),hg k (by omega)⟩
  have A1:∀ m,n+2≤m→Gd m ((n+1,(Ob.row 6 [.agg [.int .i64 0,.int .i64 0,.bool false,.str [],.nils,.nils]])) :: (n,.row 17 [(D.agg [.int .i64 3,.str (F).nm,.int .i64 0,.int .i64 (F).typ.form,.int .i64 (F).typ.n,.bool (F).typ.hid,.str (F).typ.name,slD 2 encL (F).typ.levels,slD 6 encT (F).typ.kids,.int .i64 0,.int .i64 0,.bool false,.str [],.nils,.nils,.int .i64 ((F).P:Nat),.ms 7 (r) 0 (F).cs.length false])])::h):=fun m hm k hk=>good_cons.2 ⟨by omega,lowO_one rfl,A0 k (by omega) k (Nat.le_refl _)⟩
  obtain ⟨n1,h1',q,e1,m1,g1,X1,q1,k1⟩:=pAsk (F:=F) (r:=r) (n:=n+5) (h := (n+1,(Ob.row 6 [.agg [.int .i64 0,.int .i64 0,.bool false,.str [],.nils,.nils]])) :: (n,.row 17 [(D.agg [.int .i64 3,.str (F).nm,.int .i64 0,.int .i64 (F).typ.form,.int .i64 (F).typ.n,.bool (F).typ.hid,.str (F).typ.name,slD 2 encL (F).typ.levels,slD 6 encT (F).typ.kids,.int .i64 0,.int .i64 0,.bool false,.str [],.nils,.nils,.int .i64 ((F).P:Nat),.ms 7 (r) 0 (F).cs.length false])])::h) (A1 _ (by omega)) (by omega) (by rw [getO_tl (by omega),getO_tl (by omega)]; exact yr) K.ok K.ht K.hs K.h1 K.h2 K.hP K.hl K.h3 K.h4 K.h5
  obtain ⟨n2,h2',e2,m2,g2,k2⟩:=pType (F:=F) (f:=q) (r:=r) (n:=n1+10) (fun k hk=>g1 k (by omega)) (X1.up (by omega)) (K.mkr q r) ⟨K.num,by have:=K.ok.cs; omega⟩ K.sm (K.meth q r) K.lP K.lI K.sI (K.q1 r) K.q2
  have hE:elimT F.nm F.Ps.el.length F.Ps.el F.Is.el (methsT MT F.cs.length)=resE F MT:=rfl
  rw [hE] at e2
  generalize resE F MT=T at e2 hs h1 hc ⊢
  have G3:∀ m y,n2≤y→y < m→Gd m ((y,(Ob.row 6 [.agg [.int .i64 (T).form,.int .i64 (T).n,.bool (T).hid,.str (T).name,slD 2 encL (T).levels,slD 6 encT (T).kids]]))::h2'):=fun m y hy hm k hk=>good_cons.2 ⟨by omega,lowO_one (low_flat (flatTA T)),g2 k (by omega)⟩
  have e3:∀ m y,n2≤y→y < m→callFn (LX (cF Try.prog)) m ((y,(Ob.row 6 [.agg [.int .i64 (T).form,.int .i64 (T).n,.bool (T).hid,.str (T).name,slD 2 encL (T).levels,slD 6 encT (T).kids]]))::h2') [(D.agg [.int .i64 (T).form,.int .i64 (T).n,.bool (T).hid,.str (T).name,slD 2 encL (T).levels,slD 6 encT (T).kids])] (cF Try.prog 22) = .ok (.tup [encT (copyT T),.int .i64 0]) m ((y,(Ob.row 6 [.agg [.int .i64 (T).form,.int .i64 (T).n,.bool (T).hid,.str (T).name,slD 2 encL (T).levels,slD 6 encT (T).kids]]))::h2'):=fun m y hy hm=>pEtold (G3 m y hy hm) hs h1 hc
  generalize copyT T=U at e3 ⊢
  rw [encT_eq] at e2 e3 ⊢
  have y1:getO h2' (n+1) = (Ob.row 6 [.agg [.int .i64 0,.int .i64 0,.bool false,.str [],.nils,.nils]]):=by rw [k2 _ (by omega),k1 _ (by omega),getO_hd]
  have y1':∀ o,getO (setO h2' (n+1) o) (n+1)=o:=fun o=>getO_setO_same (by rw [y1]; simp)
  rw [f9_eq]; unfold c9; rw [callFn_eq (by rfl)]
  simp (disch:=first|assumption|omega|(simp (disch:=first|assumption|omega) only [sB,reduceAdd,reduceLT,reduceLeDiff,reduceEqDiff,reduceMul,↓reduceIte,getO_tl];done)|fail) only [sA,↓reduceIte,reduceLT,reduceEqDiff,reduceAdd,reduceLeDiff,e1,e2,e3,y1,y1',getO_tl]
  have G9:Gd (n2+16) ((n2+4,(Ob.row 6 [.agg [.int .i64 (T).form,.int .i64 (T).n,.bool (T).hid,.str (T).name,slD 2 encL (T).levels,slD 6 encT (T).kids]]))::setO h2' (n+1) (Ob.row 6 [.agg [.int .i64 (U).form,.int .i64 (U).n,.bool (U).hid,.str (U).name,slD 2 encL (U).levels,slD 6 encT (U).kids]])):=fun k hk=>good_cons.2 ⟨by omega,lowO_one (low_flat (flatTA T)),good_set (g2 k (by omega)) (lowO_one (low_flat (flatTA U)))⟩
  obtain ⟨n3,h3',f1,f2,f3,f4⟩:=fin_flat (n:=n) (d := .tup [(D.agg [.int .i64 (U).form,.int .i64 (U).n,.bool (U).hid,.str (U).name,slD 2 encL (U).levels,slD 6 encT (U).kids]),.int .i64 0]) (by rw [flat_tup,List.all_cons,List.all_cons,List.all_nil,show flat2 (D.agg [.int .i64 (U).form,.int .i64 (U).n,.bool (U).hid,.str (U).name,slD 2 encL (U).levels,slD 6 encT (U).kids])=true from flatTA U]; rfl) (by omega) G9
  refine ⟨n3,h3',f1,f2,f3,fun y hy=>?_⟩
  rw [f4 y hy,getO_tl (by omega),getO_setO _ _ _ _ (by rw [y1]; simp),if_neg (by omega),k2 y (by omega),k1 y (by omega),getO_tl (by omega),getO_tl (by omega)]
set_option maxHeartbeats 8000000 in
theorem pElimMethod {F:Fa} {A cT cC r n k:Nat} {lt l:List Tm} {tt ty t:Tm} {W:Sl Tm} {R:Nat→Bool} {MT:Nat→Tm} {h:Hps} (K:Fgd F A cT cC lt tt ty t l W R MT) (hg:Gd n h) (hr:r < n) (yr:getO h r = .row 7 (F.cs.map encC)) (hk:k < F.cs.length)
    (h1:saneT (MT k).abs=true) (hc:checkT (MT k).abs=0) :
    ∃ n' h',callFn (LX (cF Try.prog)) n h [(D.agg [.int .i64 3,.str (F).nm,.int .i64 0,.int .i64 (F).typ.form,.int .i64 (F).typ.n,.bool (F).typ.hid,.str (F).typ.name,slD 2 encL (F).typ.levels,slD 6 encT (F).typ.kids,.int .i64 0,.int .i64 0,.bool false,.str [],.nils,.nils,.int .i64 ((F).P:Nat),.ms 7 (r) 0 (F).cs.length false]),.int .i64 (k:Nat)] (cF Try.prog 10) = .ok (.tup [encT (copyT (MT k)),.int .i64 0]) n' h'∧n≤n'∧Gd n' h'∧∀ y,y < n→getO h' y=getO h y:=by
  have hgn:=hg n (Nat.le_refl _)
  have cl:=K.ok.cs
  have A0:∀ m,n+1≤m→Gd m ((n,.row 17 [(D.agg [.int .i64 3,.str (F).nm,.int .i64 0,.int .i64 (F).typ.form,.int .i64 (F).typ.n,.bool (F).typ.hid,.str (F).typ.name,slD 2 encL (F).typ.levels,slD 6 encT (F).typ.kids,.int .i64 0,.int .i64 0,.bool false,.str [],.nils,.nils,.int .i64 ((F).P:Nat),.ms 7 (r) 0 (F).cs.length false])])::h):=fun m hm k hk=>good_cons.2 ⟨by omega,lowFD (by omega),hg k (by omega)⟩
  have A1:∀ m,n+2≤m→Gd m ((n+1,(Ob.row 6 [.agg [.int .i64 0,.int .i64 0,.bool false,.str [],.nils,.nils]])) :: (n,.row 17 [(D.agg [.int .i64 3,.str (F).nm,.int .i64 0,.int .i64 (F).typ.form,.int .i64 (F).typ.n,.bool (F).typ.hid,.str (F).typ.name,slD 2 encL (F).typ.levels,slD 6 encT (F).typ.kids,.int .i64 0,.int .i64 0,.bool false,.str [],.nils,.nils,.int .i64 ((F).P:Nat),.ms 7 (r) 0 (F).cs.length false])])::h):=fun m hm k hk=>good_cons.2 ⟨by omega,lowO_one rfl,A0 k (by omega) k (Nat.le_refl _)⟩
  obtain ⟨n1,h1',q,e1,m1,g1,X1,q1,k1⟩:=pAsk (F:=F) (r:=r) (n:=n+5) (h := (n+1,(Ob.row 6 [.agg [.int .i64 0,.int .i64 0,.bool false,.str [],.nils,.nils]])) :: (n,.row 17 [(D.agg [.int .i64 3,.str (F).nm,.int .i64 0,.int .i64 (F).typ.form,.int .i64 (F).typ.n,.bool (F).typ.hid,.str (F).typ.name,slD 2 encL (F).typ.levels,slD 6 encT (F).typ.kids,.int .i64 0,.int .i64 0,.bool false,.str [],.nils,.nils,.int .i64 ((F).P:Nat),.ms 7 (r) 0 (F).cs.length false])])::h) (A1 _ (by omega)) (by omega) (by rw [getO_tl (by omega),getO_tl (by omega)]; exact yr) K.ok K.ht K.hs K.h1 K.h2 K.hP K.hl K.h3 K.h4 K.h5
  obtain ⟨nm,M0⟩:=K.mkr q r k hk
  obtain ⟨n2,h2',qm,dR,e2,H2,m2,m3,b1,b2⟩:=pMaker M0 (n:=n1+20) (h:=h1') (fun k hk=>g1 k (by omega)) (X1.up (by omega))
  have hle:=H2.le
  have MM:Mat ((Sl.app l).cut F.Ps.el.length l.length) (recs R A) (slD 6 encT W) qm n2 h2':=⟨m3,dR,b1,b2⟩
  have XX:Fat F q r n2 h2' := (X1.up (show n1≤n1+20 by omega)).hp H2
  have e3:∀ m,n2≤m→callFn (LX (cF Try.prog)) m h2' [.ptr q 0 0,.int .i64 (k:Nat),.ptr qm 0 0] (cF Try.prog 24) = .ok (encT (MT k)) m h2':=fun m hm=>K.meth q r k hk m h2' qm (fun k hk=>H2.good k (by omega)) (XX.up hm) ⟨by omega,dR,b1,b2⟩
  have hs:=K.sm k hk
  generalize MT k=T at e3 hs h1 hc ⊢
  have e4:∀ m,n2≤m→callFn (LX (cF Try.prog)) m h2' [(D.agg [.int .i64 (T).form,.int .i64 (T).n,.bool (T).hid,.str (T).name,slD 2 encL (T).levels,slD 6 encT (T).kids])] (cF Try.prog 22) = .ok (.tup [encT (copyT T),.int .i64 0]) m h2':=fun m hm=>pEtold (fun k hk=>H2.good k (by omega)) hs h1 hc
  generalize copyT T=U at e4 ⊢
  rw [encT_eq] at e3 e4 ⊢
  have y0:getO h1' n = .row 17 [(D.agg [.int .i64 3,.str (F).nm,.int .i64 0,.int .i64 (F).typ.form,.int .i64 (F).typ.n,.bool (F).typ.hid,.str (F).typ.name,slD 2 encL (F).typ.levels,slD 6 encT (F).typ.kids,.int .i64 0,.int .i64 0,.bool false,.str [],.nils,.nils,.int .i64 ((F).P:Nat),.ms 7 (r) 0 (F).cs.length false])]:=by rw [k1 _ (by omega),getO_tl (by omega),getO_hd]
  have y1:getO h2' (n+1) = (Ob.row 6 [.agg [.int .i64 0,.int .i64 0,.bool false,.str [],.nils,.nils]]):=by rw [H2.get (by omega),k1 _ (by omega),getO_hd]
  have y1':∀ o,getO (setO h2' (n+1) o) (n+1)=o:=fun o=>getO_setO_same (by rw [y1]; simp)
  have z1:¬ ((k:Nat):Int) < 0:=by omega
  have z2:¬ ((k:Nat):Int) ≥ (F.cs.length:Nat):=by omega
  have lR:∀ m g,lenD m g .slice (.ms 7 r 0 F.cs.length false) = .ok (.int .i64 (F.cs.length:Nat)) m g:=fun _ _=>rfl
  rw [f10_eq]; unfold c10; rw [callFn_eq (by rfl)]
  simp (disch:=first|assumption|omega|(simp (disch:=first|assumption|omega) only [sB,reduceAdd,reduceLT,reduceLeDiff,reduceEqDiff,reduceMul,↓reduceIte,getO_tl];done)|fail) only [sA,↓reduceIte,reduceLT,reduceEqDiff,reduceAdd,reduceLeDiff,e1,y0,z1,z2,lR,e2,e3,e4,y1,y1',getO_tl]
  have G9:Gd (n2+19) (setO h2' (n+1) (Ob.row 6 [.agg [.int .i64 (U).form,.int .i64 (U).n,.bool (U).hid,.str (U).name,slD 2 encL (U).levels,slD 6 encT (U).kids]])):=fun k hk=>good_set (H2.good k (by omega)) (lowO_one (low_flat (flatTA U)))
  obtain ⟨n3,h3',f1,f2,f3,f4⟩:=fin_flat (n:=n) (d := .tup [(D.agg [.int .i64 (U).form,.int .i64 (U).n,.bool (U).hid,.str (U).name,slD 2 encL (U).levels,slD 6 encT (U).kids]),.int .i64 0]) (by rw [flat_tup,List.all_cons,List.all_cons,List.all_nil,show flat2 (D.agg [.int .i64 (U).form,.int .i64 (U).n,.bool (U).hid,.str (U).name,slD 2 encL (U).levels,slD 6 encT (U).kids])=true from flatTA U]; rfl) (by omega) G9
  refine ⟨n3,h3',f1,f2,f3,fun y hy=>?_⟩
  rw [f4 y hy,getO_setO _ _ _ _ (by rw [y1]; simp),if_neg (by omega),H2.get (by omega),k1 y (by omega),getO_tl (by omega),getO_tl (by omega)]
theorem map_encI_okE {l:List Nat}:∀ d,d∈l.map encI→okE 1 d=true:=fun d hd=>by
  obtain ⟨c,_,rfl⟩:=List.mem_map.1 hd; rfl
theorem fin_ctor {n m:Nat} {h:Hps} {a b dR:D} {rs:List Nat} {s:Nat} (hnm:n≤m) (hg:Gd m h) (B:Bld 1 encI s rs h dR) (hs:n≤s) (ha:flat2 a=true) (hb:flat2 b=true) (hlen:rs.length≤1000000) :
    ∃ d n' h',finishD n m h (.tup [a,dR,b,.int .i64 0]) = .ok (.tup [a,d,b,.int .i64 0]) n' h' ∧ (∀ m g,lenD m g .slice d = .ok (.int .i64 (rs.length:Nat)) m g) ∧ (∀ m g,okD m g d = .ok d m g)∧n≤n'∧Gd n' h'∧∀ y,y < n→getO h' y=getO h y:=by
  obtain ⟨d',n',h',hd,e,r1,r2,r3⟩:=fin_any (d := .tup [a,dR,b,.int .i64 0]) hnm hg
  have l0:∀ m g,lenD m g .slice dR = .ok (.int .i64 (rs.length:Nat)) m g:=fun m g=>by
    rcases B with ⟨rfl,rfl⟩ | ⟨r,_,_,rfl,_⟩ <;> rfl
  rcases hd with rfl | ⟨rfl,hj⟩
  · exact ⟨dR,n',h',e,l0,fun m g=>by rcases B with ⟨rfl,rfl⟩ | ⟨r,_,_,rfl,_⟩ <;> rfl,r1,r2,r3⟩
  · have fa:frz h n 59 a=a := (plain2 57 ha).frz h n
    have fb:frz h n 59 b=b := (plain2 57 hb).frz h n
    have e5:frz h n 60 (.tup [a,dR,b,.int .i64 0]) = .tup [a,frz h n 59 dR,b,.int .i64 0]:=by
      rw [frz_tup,List.map_cons,List.map_cons,List.map_cons,List.map_cons,List.map_nil,fa,fb]; rfl
    rw [e5] at e
    have e6:∃ q es sp fl,frz h n 59 dR = .nils∧rs=[]∨frz h n 59 dR = .sl q es sp fl∧es.length=rs.length:=by
      rcases B with ⟨rfl,rfl⟩ | ⟨r,r5,r6,rfl,g⟩
      · exact ⟨0,[],[],false,.inl ⟨rfl,rfl⟩⟩
      · refine ⟨1,rs.map encI,spareK 1 [] false,false,.inr ⟨?_,by rw [List.length_map]⟩⟩
        show Bool.rec (motive:=fun _=>D) (frzO (frz h n 58) 1 0 rs.length false (getO h r)) (.ms 1 r 0 rs.length false) (Nat.blt r n)=_
        rw [blt_iff,decide_eq_false (by omega),g]
        show Bool.rec (motive:=fun _=>D) .junk (frzS 1 (mapL (frz h n 58) (takeL rs.length (dropL 0 (rs.map encI)))) (dropL (0+rs.length) (rs.map encI)) false) (Bool.and (Nat.beq 1 1) (Nat.ble (0+rs.length) (lenL (rs.map encI))))=_
        rw [lenL_eq,List.length_map,Nat.zero_add,ble_iff,decide_eq_true (Nat.le_refl _),mapL_eq,takeL_eq,dropL_eq,dropL_eq,List.drop_zero,List.take_of_length_le (by simp),List.drop_of_length_le (by simp)]
        have e7 : (rs.map encI).map (frz h n 58)=rs.map encI:=by
          rw [List.map_map]; rfl
        rw [e7]
        show Bool.rec (motive:=fun _=>D) .junk (.sl 1 (rs.map encI) (spareK 1 [] false) false) (allL (okE 1) (rs.map encI))=_
        rw [allL_eq,List.all_eq_true.2 map_encI_okE]
    obtain ⟨q,es,sp,fl,e6⟩:=e6
    refine ⟨_,n',h',e,fun m g=>?_,fun m g=>?_,r1,r2,r3⟩
    · rcases e6 with ⟨e7,rfl⟩ | ⟨e7,e8⟩
      · rw [e7]; rfl
      · rw [e7,← e8]
        show Rd.ok (.int .i64 (.ofNat (lenL es))) m g=_
        rw [lenL_eq]; rfl
    · rcases e6 with ⟨e7,_⟩ | ⟨e7,_⟩ <;> rw [e7] <;> rfl
set_option maxHeartbeats 8000000 in
theorem pElimCtor {F:Fa} {A cT cC r n k:Nat} {lt l:List Tm} {tt ty t:Tm} {W:Sl Tm} {R:Nat→Bool} {MT:Nat→Tm} {h:Hps} (K:Fgd F A cT cC lt tt ty t l W R MT) (hg:Gd n h) (hr:r < n) (yr:getO h r = .row 7 (F.cs.map encC)) (hk:k < F.cs.length)
    (hV:l.length≤1000000∧∀ x,x ∈ ((Sl.app l).cut F.Ps.el.length l.length).el→Sm x) (hW:W.el.length≤1000000∧∀ x,x∈W.el→Sm x) :
    ∃ d n' h',callFn (LX (cF Try.prog)) n h [(D.agg [.int .i64 3,.str (F).nm,.int .i64 0,.int .i64 (F).typ.form,.int .i64 (F).typ.n,.bool (F).typ.hid,.str (F).typ.name,slD 2 encL (F).typ.levels,slD 6 encT (F).typ.kids,.int .i64 0,.int .i64 0,.bool false,.str [],.nils,.nils,.int .i64 ((F).P:Nat),.ms 7 (r) 0 (F).cs.length false]),.int .i64 (k:Nat)] (cF Try.prog 11) = .ok (.tup [slD 6 encT (Sl.app (((Sl.app l).cut F.Ps.el.length l.length).el.map copyT)),d,slD 6 encT (Sl.app (W.el.map copyT)),.int .i64 0]) n' h' ∧
      (∀ m g,lenD m g .slice d = .ok (.int .i64 ((recs R A).length:Nat)) m g) ∧ (∀ m g,okD m g d = .ok d m g)∧n≤n'∧Gd n' h'∧∀ y,y < n→getO h' y=getO h y:=by
  have hgn:=hg n (Nat.le_refl _)
  have cl:=K.ok.cs
  have A0:∀ m,n+1≤m→Gd m ((n,.row 17 [(D.agg [.int .i64 3,.str (F).nm,.int .i64 0,.int .i64 (F).typ.form,.int .i64 (F).typ.n,.bool (F).typ.hid,.str (F).typ.name,slD 2 encL (F).typ.levels,slD 6 encT (F).typ.kids,.int .i64 0,.int .i64 0,.bool false,.str [],.nils,.nils,.int .i64 ((F).P:Nat),.ms 7 (r) 0 (F).cs.length false])])::h):=fun m hm k hk=>good_cons.2 ⟨by omega,lowFD (by omega),hg k (by omega)⟩
  obtain ⟨n1,h1',q,e1,m1,g1,X1,q1,k1⟩:=pAsk (F:=F) (r:=r) (n:=n+7) (h := (n,.row 17 [(D.agg [.int .i64 3,.str (F).nm,.int .i64 0,.int .i64 (F).typ.form,.int .i64 (F).typ.n,.bool (F).typ.hid,.str (F).typ.name,slD 2 encL (F).typ.levels,slD 6 encT (F).typ.kids,.int .i64 0,.int .i64 0,.bool false,.str [],.nils,.nils,.int .i64 ((F).P:Nat),.ms 7 (r) 0 (F).cs.length false])])::h) (A0 _ (by omega)) (by omega) (by rw [getO_tl (by omega)]; exact yr) K.ok K.ht K.hs K.h1 K.h2 K.hP K.hl K.h3 K.h4 K.h5
  obtain ⟨nm,M0⟩:=K.mkr q r k hk
  obtain ⟨n2,h2',qm,dR,e2,H2,m2,m3,b1,b2⟩:=pMaker M0 (n:=n1+20) (h:=h1') (fun k hk=>g1 k (by omega)) (X1.up (by omega))
  have hle:=H2.le
  have hlA:=M0.len
  have y0:getO h1' n = .row 17 [(D.agg [.int .i64 3,.str (F).nm,.int .i64 0,.int .i64 (F).typ.form,.int .i64 (F).typ.n,.bool (F).typ.hid,.str (F).typ.name,slD 2 encL (F).typ.levels,slD 6 encT (F).typ.kids,.int .i64 0,.int .i64 0,.bool false,.str [],.nils,.nils,.int .i64 ((F).P:Nat),.ms 7 (r) 0 (F).cs.length false])]:=by rw [k1 _ (by omega),getO_hd]
  have z1:¬ ((k:Nat):Int) < 0:=by omega
  have z2:¬ ((k:Nat):Int) ≥ (F.cs.length:Nat):=by omega
  have lR:∀ m g,lenD m g .slice (.ms 7 r 0 F.cs.length false) = .ok (.int .i64 (F.cs.length:Nat)) m g:=fun _ _=>rfl
  generalize hVV : (Sl.app l).cut F.Ps.el.length l.length=V at hV b1 ⊢
  have vl:V.el.length≤1000000000:=by
    rw [← hVV,Sl.cut_el (by exact Nat.le_refl _)]
    show ((l.drop _).take _).length≤_
    rw [List.length_take,List.length_drop]
    have:=hV.1
    omega
  have c1:∀ m h,Gd m h→callFn (LX (cF Try.prog)) m h [slD 6 encT V] (cF Try.prog 25) = .ok (slD 6 encT (Sl.app (V.el.map copyT))) m h:=fun m h hg=>pCopies vl hV.2 m h hg (Sv.slD encA)
  have c2:∀ m h,Gd m h→callFn (LX (cF Try.prog)) m h [slD 6 encT W] (cF Try.prog 25) = .ok (slD 6 encT (Sl.app (W.el.map copyT))) m h:=fun m h hg=>pCopies (by have:=hW.1; omega) hW.2 m h hg (Sv.slD encA)
  have k2:∀ k,n2≤k→keysFrom k h2'=[]:=fun k hk=>keys_low (H2.good k hk)
  have oR:∀ m g,okD m g dR = .ok dR m g:=fun m g=>by rcases b2 with ⟨_,rfl⟩ | ⟨r,_,_,rfl,_⟩ <;> rfl
  generalize Sl.app (V.el.map copyT)=CV at c1 ⊢
  generalize Sl.app (W.el.map copyT)=CW at c2 ⊢
  rw [f11_eq]; unfold c11; rw [callFn_eq (by rfl)]
  simp (disch:=first|assumption|omega|(simp (disch:=first|assumption|omega) only [sB,reduceAdd,reduceLT,reduceLeDiff,reduceEqDiff,reduceMul,↓reduceIte,gd_nil,getO_tl];done)|fail) only [sA,↓reduceIte,reduceLT,reduceEqDiff,reduceAdd,reduceLeDiff,e1,y0,z1,z2,lR,e2,b1,c1,c2,oR,k2,tr_nilck,gd_nil,getO_tl]
  have hrl : (recs R A).length≤1000000:=by have:=recs_len (R:=R) (i:=A); have:=M0.few; omega
  obtain ⟨d,n3,h3',f1,f2,f3,f4,f5,f6⟩:=fin_ctor (n:=n) (m:=n2+19791209299976) (h:=h2') (a:=slD 6 encT CV) (b:=slD 6 encT CW) (by omega) (fun k hk=>H2.good k (by omega)) b2 (by omega) flat2_slD flat2_slD hrl
  refine ⟨d,n3,h3',f1,f2,f3,f4,f5,fun y hy=>?_⟩
  rw [f6 y hy,H2.get (by omega),k1 y (by omega),getO_tl (by omega)]
end Go.Proofs.Ytpbpmpabndgeeaa
