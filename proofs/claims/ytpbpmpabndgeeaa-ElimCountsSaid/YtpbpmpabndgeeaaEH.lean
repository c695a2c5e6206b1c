/- The family itself, as a term; the motive. No condition but sizes. -/
import Derived.Test.YtpbpmpabndgeeaaEE
set_option linter.unusedSimpArgs false
set_option linter.unusedVariables false
namespace Go.Proofs.Ytpbpmpabndgeeaa
open Go
open Nat (reduceAdd reduceLT reduceLeDiff reduceEqDiff reduceMul)

structure Mat (V:Sl Tm) (rs:List Nat) (dI:D) (q n:Nat) (h:Hps):Prop where
  ql:q < n
  box:∃ dR,getO h q = .row 3 [.agg [slD 6 encT V,dR,dI]]∧Bld 1 encI (q+1) rs h dR
theorem Mat.hp {V:Sl Tm} {rs:List Nat} {dI:D} {q n n':Nat} {h h':Hps} (hg:GoodAt n h) (A:Mat V rs dI q n h) (H:Hp n h n' h'):Mat V rs dI q n' h':=by
  obtain ⟨dR,b1,b2⟩:=A.box
  refine ⟨by have:=A.ql; have:=H.le; omega,dR,by rw [H.get A.ql]; exact b1,b2.keep fun r e=>?_⟩
  rcases b2 with ⟨_,e2⟩ | ⟨p,_,_,e2,g⟩
  · rw [e2] at e; cases e
  · rw [e2] at e; injection e with _ e _ _ _
    subst e
    exact H.get (getO_low hg (by rw [g]; exact fun h=>by cases h))
theorem gd_vt {m r:Nat} {x:Int} {g:Hps} (h:r < m):Gd m ((r,.row 6 [.agg [.int .i64 1,.int .i64 x,.bool false,.str [],.nils,.nils]])::g)=Gd m g:=gd_tm (t:=varT x) h
def belowT (P N i a:Nat) (T:Tm):Tm:=two 5 (appT (varT ((N+i:Nat):Int)) ((spn (liftT 0 ((N - a+i:Nat):Int) (liftT (a:Nat) 1 T))).2.1.drop P)) (varT ((N - 1 - a+i:Nat):Int))
set_option maxHeartbeats 8000000 in
theorem pBelow {F:Fa} {f r q b3 b5 b7 n N i a I:Nat} {V:Sl Tm} {rs:List Nat} {dI:D} {T:Tm} {h:Hps} (hg:Gd n h) (X:Fat F f r n h) (M:Mat V rs dI q n h)
    (y3:getO h b3 = .row 1 [.ptr f 0 0]) (y5:getO h b5 = .row 1 [.ptr q 0 0]) (y7:getO h b7 = .row 1 [.int .i64 (N:Nat)])
    (hi:rs[i]? = some a) (hV:V.el[a]? = some T) (ha:a < N) (hN:N≤1000) (hr:rs.length≤1000) (hT:Sm T) (hT1:Sm (liftT (a:Nat) 1 T))
    (hf:formedT (liftT 0 ((N - a+i:Nat):Int) (liftT (a:Nat) 1 T)).abs=true) (hs:sizeT (liftT 0 ((N - a+i:Nat):Int) (liftT (a:Nat) 1 T)).abs≤100000)
    (hz : (liftT 0 ((N - a+i:Nat):Int) (liftT (a:Nat) 1 T)).form≠3)
    (hl : (spn (liftT 0 ((N - a+i:Nat):Int) (liftT (a:Nat) 1 T))).2.1.length=F.Ps.el.length+I) (hI:F.Ps.el.length≤1000∧I≤1000) :
    callFn (LX (cF Try.prog)) n h [.int .i64 (i:Nat),.ptr b5 0 0,.ptr b7 0 0,.ptr b3 0 0] (cF Try.prog 46) = .ok (encT (belowT F.Ps.el.length N i a T)) n h:=by
  have hgn:=hg n (Nat.le_refl _)
  have hG:∀ m,n≤m→Gd m h:=fun m hm=>hg.mono hm
  have z0:=X.box
  have hfl:=X.fl
  have hql:=M.ql
  obtain ⟨dR,mb,mB⟩:=M.box
  have hil:i < rs.length := (List.getElem?_eq_some_iff.1 hi).1
  obtain ⟨r2,_,_,rfl,zr⟩:=mB.resolve_left (fun e=>by rw [e.1] at hil; exact absurd hil (Nat.not_lt_zero _))
  have eI : (rs.map encI).getD i .junk = .int .i64 (a:Nat):=by rw [List.getD_eq_getElem?_getD,List.getElem?_map,hi]; rfl
  have haV:a < V.el.length := (List.getElem?_eq_some_iff.1 hV).1
  have eV:∀ hh,encT (V.el[a]'hh) = (D.agg [.int .i64 (T).form,.int .i64 (T).n,.bool (T).hid,.str (T).name,slD 2 encL (T).levels,slD 6 encT (T).kids]):=fun hh=>by
    rw [List.getElem?_eq_getElem hh] at hV
    rw [Option.some.inj hV]; exact encT_eq _
  have l3:=getO_low hgn (show getO h b3 ≠ .none by rw [y3]; exact fun h=>by cases h)
  have l5:=getO_low hgn (show getO h b5 ≠ .none by rw [y5]; exact fun h=>by cases h)
  have l7:=getO_low hgn (show getO h b7 ≠ .none by rw [y7]; exact fun h=>by cases h)
  have lr:=getO_low hgn (show getO h r2 ≠ .none by rw [zr]; exact fun h=>by cases h)
  have e1 : (N:Int) - a+i = ((N - a+i:Nat):Int):=by omega
  have e2 : (N:Int) - 1 - a+i = ((N - 1 - a+i:Nat):Int):=by omega
  have c1:∀ m h,Gd m h→callFn (LX (cF Try.prog)) m h [(D.agg [.int .i64 (T).form,.int .i64 (T).n,.bool (T).hid,.str (T).name,slD 2 encL (T).levels,slD 6 encT (T).kids]),.int .i64 (a:Nat),.int .i64 1] (cF Try.prog 31) = .ok (encT (liftT (a:Nat) 1 T)) m h:=fun m h hg=>pLift' m h hg T _ 1 (by omega) (by omega) hT
  unfold belowT
  generalize hT1':liftT (a:Nat) 1 T=T1 at c1 hT1 hf hs hz hl ⊢
  have c2:∀ m h,Gd m h→callFn (LX (cF Try.prog)) m h [(D.agg [.int .i64 (T1).form,.int .i64 (T1).n,.bool (T1).hid,.str (T1).name,slD 2 encL (T1).levels,slD 6 encT (T1).kids]),.int .i64 0,.int .i64 ((N - a+i:Nat):Int)] (cF Try.prog 31) = .ok (encT (liftT 0 ((N - a+i:Nat):Int) T1)) m h:=fun m h hg=>pLift' m h hg T1 0 _ (by omega) (by omega) hT1
  generalize hT2':liftT 0 ((N - a+i:Nat):Int) T1=T2 at c2 hf hs hz hl ⊢
  have c3:∀ m h,Gd m h→callFn (LX (cF Try.prog)) m h [(D.agg [.int .i64 (T2).form,.int .i64 (T2).n,.bool (T2).hid,.str (T2).name,slD 2 encL (T2).levels,slD 6 encT (T2).kids])] (cF Try.prog 42) = .ok (.tup [.nils,encT T2]) m h:=fun m h hg=>by
    have:=pStrip T2 hf hs m h hg
    rw [strp_end hz] at this
    exact this
  have c4:∀ m h,Gd m h→callFn (LX (cF Try.prog)) m h [(D.agg [.int .i64 (T2).form,.int .i64 (T2).n,.bool (T2).hid,.str (T2).name,slD 2 encL (T2).levels,slD 6 encT (T2).kids])] (cF Try.prog 47) = .ok (.tup [encT (spn T2).1,slD 6 encT (Sl.app (spn T2).2.1),slD 1 encB (Sl.app (spn T2).2.2)]) m h:=fun m h hg=>pSpine T2 hf hs m h hg
  generalize (spn T2).1=Hd at c4
  generalize hL : (spn T2).2.1=L at c4 hl ⊢
  generalize Sl.app (spn T2).2.2=Bs at c4
  rw [encT_eq] at c1 c2 c3 c4
  have c5:∀ m h,Gd m h→∀ x,callFn (LX (cF Try.prog)) m h [.int .i64 x] (cF Try.prog 35) = .ok (.agg [.int .i64 1,.int .i64 x,.bool false,.str [],.nils,.nils]) m h:=fun m h hg x=>pVar m h hg x
  have c6:∀ m h,Gd m h→callFn (LX (cF Try.prog)) m h [.int .i64 0,.int .i64 0] (cF Try.prog 33) = .ok .nils m h:=fun m h hg=>pVars 0 0 (by omega) (by omega) m h hg
  have c7:∀ m h,Gd m h→callFn (LX (cF Try.prog)) m h [.agg [.int .i64 1,.int .i64 ((N - 1 - a+i:Nat):Int),.bool false,.str [],.nils,.nils],.nils] (cF Try.prog 34) = .ok (.agg [.int .i64 1,.int .i64 ((N - 1 - a+i:Nat):Int),.bool false,.str [],.nils,.nils]) m h:=fun m h hg=>by
    have:=pApp (varT ((N - 1 - a+i:Nat):Int)) (l:=[]) (by simp) m h hg (Sv.slD (s:=Sl.app []) encA)
    rw [show appT (varT ((N - 1 - a+i:Nat):Int)) []=varT ((N - 1 - a+i:Nat):Int) from rfl,enc_var] at this
    exact this
  have sl3:∀ m g,slcX m g 6 encT (Sl.app L) (.int .i64 (F.Ps.el.length:Nat)) (.int .i64 (L.length:Nat)) = .ok (slD 6 encT ((Sl.app L).cut F.Ps.el.length L.length)) m g:=fun m g=>by
    show (if F.Ps.el.length≤L.length∧L.length≤L.length+0 then Rd.ok (slD 6 encT ((Sl.app L).cut F.Ps.el.length L.length)) m g else .bad)=_
    rw [if_pos ⟨by omega,Nat.le_refl _⟩]
  have eC : ((Sl.app L).cut F.Ps.el.length L.length).el=L.drop F.Ps.el.length:=by
    show ((L++[]).drop F.Ps.el.length).take (L.length - F.Ps.el.length)=_
    rw [List.append_nil,List.take_of_length_le (by rw [List.length_drop]; exact Nat.le_refl _)]
  have c8:∀ m h,Gd m h→callFn (LX (cF Try.prog)) m h [.agg [.int .i64 1,.int .i64 ((N+i:Nat):Int),.bool false,.str [],.nils,.nils],slD 6 encT ((Sl.app L).cut F.Ps.el.length L.length)] (cF Try.prog 34) = .ok (encT (appT (varT ((N+i:Nat):Int)) (L.drop F.Ps.el.length))) m h:=fun m h hg=>by
    have:=pApp (varT ((N+i:Nat):Int)) (by rw [eC,List.length_drop]; omega) m h hg (Sv.slD (s := (Sl.app L).cut F.Ps.el.length L.length) encA)
    rw [eC] at this
    exact this
  generalize appT (varT ((N+i:Nat):Int)) (L.drop F.Ps.el.length)=Y at c8 ⊢
  have c9:∀ m h,Gd m h→callFn (LX (cF Try.prog)) m h [(D.agg [.int .i64 (Y).form,.int .i64 (Y).n,.bool (Y).hid,.str (Y).name,slD 2 encL (Y).levels,slD 6 encT (Y).kids]),.sl 6 [.agg [.int .i64 1,.int .i64 ((N - 1 - a+i:Nat):Int),.bool false,.str [],.nils,.nils]] [] true] (cF Try.prog 34) = .ok (encT (two 5 Y (varT ((N - 1 - a+i:Nat):Int)))) m h:=fun m h hg=>by
    have:=pApp Y (l:=[varT ((N - 1 - a+i:Nat):Int)]) (by simp) m h hg (Sv.slD (s:=⟨false,true,[varT ((N - 1 - a+i:Nat):Int)],[]⟩) encA)
    rw [show slD 6 encT (⟨false,true,[varT ((N - 1 - a+i:Nat):Int)],[]⟩:Sl Tm) = .sl 6 [encT (varT ((N - 1 - a+i:Nat):Int))] [] true from rfl,enc_var] at this
    exact this
  generalize two 5 Y (varT ((N - 1 - a+i:Nat):Int))=Z at c9 ⊢
  have c10:∀ m h,Gd m h→callFn (LX (cF Try.prog)) m h [.nils,(D.agg [.int .i64 (Z).form,.int .i64 (Z).n,.bool (Z).hid,.str (Z).name,slD 2 encL (Z).levels,slD 6 encT (Z).kids])] (cF Try.prog 36) = .ok (encT Z) m h:=fun m h hg=>pPis Z (l:=[]) (by simp) m h hg (Sv.slD (s:=Sl.app []) encA)
  rw [encT_eq] at c8 c9 c10 ⊢
  generalize hC : (Sl.app L).cut F.Ps.el.length L.length=C at c8 sl3 eC
  rw [f46_eq]; unfold c46; rw [callFn_eq (by rfl)]
  simp (disch:=first|assumption|omega|(simp (disch:=first|assumption|omega) only [sB,reduceAdd,reduceLT,reduceLeDiff,reduceEqDiff,reduceMul,↓reduceIte,hG,gd_nil,gd_tm,gd_tmf,gd_vt,gd_zt,haV,hil,getO_tl];done)|fail) only [sA,↓reduceIte,reduceLT,reduceEqDiff,reduceAdd,reduceLeDiff,z0,y3,y5,y7,mb,zr,eI,eV,iaddr_ms,c1,c2,c3,c4,c5,c6,c7,c8,c9,c10,sl3,e1,e2,Int.add_zero,tr_nilck,tr_slice,keys_gd,hG,gd_nil,gd_tm,gd_tmf,gd_vt,gd_zt,haV,hil,getO_tl]
end Go.Proofs.Ytpbpmpabndgeeaa
set_option linter.unusedSimpArgs false
set_option linter.unusedVariables false
namespace Go.Proofs.Ytpbpmpabndgeeaa
open Go
open Nat (reduceAdd reduceLT reduceLeDiff reduceEqDiff reduceMul)

def resT (N R:Nat) (t:Tm) (l:List Tm):Tm:=l.foldl (fun t x=>two 5 t (liftT 0 (R:Nat) (liftT (N:Nat) 1 x))) t
theorem resT_take {N R:Nat} {t:Tm} {l:List Tm} {i:Nat} (hi:i < l.length):resT N R t (l.take (i+1))=two 5 (resT N R t (l.take i)) (liftT 0 (R:Nat) (liftT (N:Nat) 1 l[i])):=by
  unfold resT
  rw [← List.take_append_getElem hi,List.foldl_append]
  rfl
def rangeT (B:Nat→Tm) (R:Nat):List Tm := (List.range R).map B
theorem rangeT_take {B:Nat→Tm} {R i:Nat} (hi:i < R) : (rangeT B R).take (i+1) = (rangeT B R).take i++[B i]:=by
  rw [← List.take_append_getElem (by simp [rangeT]; exact hi)]
  congr 2
  simp [rangeT]
def methT (P:Nat) (nm:List Nat) (V W:List Tm) (R:Nat) (B:Nat→Tm):Tm :=
  pisT (liftedT V 1) (pisT (rangeT B R) (two 5 (resT V.length R (varT ((V.length+R:Nat):Int)) W) (appT (appT (conT nm) (varsT P (1 + (V.length:Int) + (R:Nat)))) (varsT V.length (R:Nat)))))
set_option maxHeartbeats 16000000 in
theorem pMethod {F:Fa} {f r q n k:Nat} {nm:List Nat} {ty:Tm} {V W:Sl Tm} {rs:List Nat} {B:Nat→Tm} {h:Hps} (hg:Gd n h) (X:Fat F f r n h) (M:Mat V rs (slD 6 encT W) q n h)
    (hc:F.cs[k]? = some (nm,ty)) (hV:V.el.length≤1000) (hW:W.el.length≤1000) (hR:rs.length≤1000) (hP:F.Ps.el.length≤1000) (sV:∀ x,x∈V.el→Sm x) (sW:∀ x,x∈W.el→Sm x∧Sm (liftT (V.el.length:Nat) 1 x))
    (hB:∀ i,i < rs.length→∀ m g b3 b5 b7,Gd m g→Fat F f r m g→Mat V rs (slD 6 encT W) q m g→getO g b3 = .row 1 [.ptr f 0 0]→getO g b5 = .row 1 [.ptr q 0 0]→getO g b7 = .row 1 [.int .i64 (V.el.length:Nat)] →
      callFn (LX (cF Try.prog)) m g [.int .i64 (i:Nat),.ptr b5 0 0,.ptr b7 0 0,.ptr b3 0 0] (cF Try.prog 46) = .ok (encT (B i)) m g) :
    callFn (LX (cF Try.prog)) n h [.ptr f 0 0,.int .i64 (k:Nat),.ptr q 0 0] (cF Try.prog 24) = .ok (encT (methT F.Ps.el.length nm V.el W.el rs.length B)) n h:=by
  have hgn:=hg n (Nat.le_refl _)
  have hG:∀ m,n≤m→Gd m h:=fun m hm=>hg.mono hm
  have z0:=X.box
  have zr:=X.row
  have hfl:=X.fl
  have hrl:=X.rl
  have hql:=M.ql
  obtain ⟨dR,mb,mB⟩:=M.box
  have oR:=mB.okD
  have lR:∀ m g,lenD m g .slice dR = .ok (.int .i64 (rs.length:Nat)) m g:=fun m g=>by
    rcases mB with ⟨rfl,rfl⟩ | ⟨_,_,_,rfl,_⟩ <;> rfl
  have lq:∀ {m},n≤m→low m (.ptr q 0 0):=fun hm=>ble_f (by omega)
  have lf:∀ {m},n≤m→low m (.ptr f 0 0):=fun hm=>ble_f (by omega)
  have H0:Hp n h (n+3) ((n+2,(Ob.row 6 [.agg [.int .i64 0,.int .i64 0,.bool false,.str [],.nils,.nils]])) :: (n+1,.row 1 [.ptr q 0 0]) :: (n,.row 1 [.ptr f 0 0])::h) := (((Hp.start hg).cons (r:=n) (m:=n+1) (Nat.le_refl _) (by omega) (fun k hk=>lowO_one (lf (by omega)))).cons (r:=n+1) (m:=n+2) (by omega) (by omega) (fun k hk=>lowO_one (lq (by omega)))).box (r:=n+2) (m:=n+3) (k:=6) (d := (D.agg [.int .i64 0,.int .i64 0,.bool false,.str [],.nils,.nils])) (by omega) (by omega) rfl
  have hmR:∀ x,n≤x→memN x (refO dR)=false:=fun x hx=>by
    rcases mB with ⟨_,rfl⟩ | ⟨r2,_,_,rfl,gA⟩
    · rfl
    · have:=getO_low hgn (show getO h r2 ≠ .none by rw [gA]; exact fun h=>by cases h)
      show memN x [r2]=false
      rw [memN_cons,decide_eq_false (by omega)]; rfl
  have H1:Hp n h (n+10995116277764) ((n+10995116277763,.row 1 [.int .i64 (V.el.length:Nat)]) :: (n+2,(Ob.row 6 [.agg [.int .i64 0,.int .i64 0,.bool false,.str [],.nils,.nils]])) :: (n+1,.row 1 [.ptr q 0 0]) :: (n,.row 1 [.ptr f 0 0])::h):=H0.box (r:=n+10995116277763) (m:=n+10995116277764) (by omega) (by omega) rfl
  rw [f24_eq]; unfold c24; rw [callFn_eq (by rfl)]
  simp (disch:=first|assumption|omega|(simp (disch:=first|assumption|omega) only [sB,reduceAdd,reduceLT,reduceLeDiff,reduceEqDiff,reduceMul,↓reduceIte,hG,getO_tl];done)|fail) only [sA,↓reduceIte,reduceLT,reduceEqDiff,reduceAdd,reduceLeDiff,z0,mb,oR,lR,hmR,tr_nilck,hG,getO_tl]
  generalize hr0:LX (cF Try.prog) (.loop l24_0) _ _ _=r0
  obtain ⟨x,e2,n2,h2,rfl,rfl,H2,p2,z3,z5,z6,z7,dS,BS,q10,q1,q3,q5,q6,q7,q8⟩:=loop_up hr0 rs.length
    (fun i e n' h'=>Hp n h n' h'∧n+10995116277764≤n'∧getO h' n = .row 1 [.ptr f 0 0]∧getO h' (n+1) = .row 1 [.ptr q 0 0]∧getO h' (n+2) = (Ob.row 6 [.agg [.int .i64 0,.int .i64 0,.bool false,.str [],.nils,.nils]])∧getO h' (n+10995116277763) = .row 1 [.int .i64 (V.el.length:Nat)] ∧
      (∃ d,Bld 6 encT (n+10995116277764) ((rangeT B rs.length).take i) h' d∧get (po 10) e=d)∧get (po 1) e = .int .i64 (k:Nat)∧get (po 3) e = .ptr n 0 0∧get (po 5) e = .ptr (n+1) 0 0∧get (po 6) e = .ptr (n+2) 0 0∧get (po 7) e = .ptr (n+10995116277763) 0 0∧get (po 8) e = .int .i64 (rs.length:Nat) ∧
      get (po 9) e = .fn 46 [] [.ptr (n+1) 0 0,.ptr (n+10995116277763) 0 0,.ptr n 0 0]∧get (po 31) e = .int .i64 (rs.length:Nat)∧get (po 32) e = .int .i64 (i:Nat))
    (fun x e n' h'=>x = .exit 0∧Hp n h n' h'∧n+10995116277764≤n'∧getO h' n = .row 1 [.ptr f 0 0]∧getO h' (n+1) = .row 1 [.ptr q 0 0]∧getO h' (n+2) = (Ob.row 6 [.agg [.int .i64 0,.int .i64 0,.bool false,.str [],.nils,.nils]])∧getO h' (n+10995116277763) = .row 1 [.int .i64 (V.el.length:Nat)] ∧
      ∃ d,Bld 6 encT (n+10995116277764) (rangeT B rs.length) h' d∧get (po 10) e=d∧get (po 1) e = .int .i64 (k:Nat)∧get (po 3) e = .ptr n 0 0∧get (po 5) e = .ptr (n+1) 0 0∧get (po 6) e = .ptr (n+2) 0 0∧get (po 7) e = .ptr (n+10995116277763) 0 0∧get (po 8) e = .int .i64 (rs.length:Nat))
    (by
      rintro e n' h' ⟨H,p1,z3,z5,z6,z7,⟨d,BB,g10⟩,g1,g3,g5,g6,g7,g8,g9,g31,g32⟩
      rw [List.take_of_length_le (by simp [rangeT])] at BB
      unfold l24_0
      simp (disch:=first|assumption|omega|(simp (disch:=first|assumption|omega) only [sB,reduceAdd,reduceLT,reduceLeDiff,reduceEqDiff,reduceMul,↓reduceIte];done)|fail) only [sA,↓reduceIte,reduceLT,reduceEqDiff,reduceAdd,reduceLeDiff,g31,g32]
      exact ⟨_,_,_,_,rfl,by simp,rfl,H.mono (by omega),by omega,z3,z5,z6,z7,d,BB,by simp +decide only [sG,g10],by simp +decide only [sG,g1],by simp +decide only [sG,g3],by simp +decide only [sG,g5],by simp +decide only [sG,g6],by simp +decide only [sG,g7],by simp +decide only [sG,g8]⟩)
    (by
      rintro i e n' h' hi ⟨H,p1,z3,z5,z6,z7,⟨d,BB,g10⟩,g1,g3,g5,g6,g7,g8,g9,g31,g32⟩
      have hgn':=H.good' (Nat.le_refl n')
      have c1:∀ m,n'≤m→callFn (LX (cF Try.prog)) m h' [.int .i64 (i:Nat),.ptr (n+1) 0 0,.ptr (n+10995116277763) 0 0,.ptr n 0 0] (cF Try.prog 46) = .ok (encT (B i)) m h':=fun m hm=>hB i hi m h' n (n+1) (n+10995116277763) (H.good' hm) (X.hp (H.mono hm)) (M.hp hgn (H.mono hm)) z3 z5 z7
      have hT:=rangeT_take (B:=B) hi
      have hT2 : ((rangeT B rs.length).take i).length≤rs.length:=by rw [List.length_take]; omega
      generalize hX:B i=Y at c1 hT
      rw [encT_eq] at c1
      obtain ⟨D',H',A⟩:=app_bldx (b:=88) BB H (by omega) (by omega) (fun m x=>low_flat (flatT x)) [Y] (by simp at hT2 ⊢; omega)
      have A1:=fun m hm => (A m hm).1
      have A2:=fun m hm => (A m hm).2.2.2.1
      simp only [List.map_cons,List.map_nil,encT_eq Y] at A1
      have hbo:=BB.okD
      unfold l24_0
      simp (disch:=first|assumption|omega|(simp (disch:=first|assumption|omega) only [sB,reduceAdd,reduceLT,reduceLeDiff,reduceEqDiff,reduceMul,↓reduceIte];done)|fail) only [sA,↓reduceIte,reduceLT,reduceEqDiff,reduceAdd,reduceLeDiff,g9,g10,g31,g32,callX_fn,c1,hbo,A1]
      exact ⟨_,_,_,_,rfl,.inl ⟨rfl,((A _ (by omega)).2.2.1).mono (by omega),by omega,by rw [A2 _ (by omega) _ (by omega)]; exact z3,by rw [A2 _ (by omega) _ (by omega)]; exact z5,by rw [A2 _ (by omega) _ (by omega)]; exact z6,by rw [A2 _ (by omega) _ (by omega)]; exact z7,
        ⟨_,by rw [hT]; exact (A _ (by omega)).2.1,by simp +decide only [sG]⟩,by simp +decide only [sG,g1],by simp +decide only [sG,g3],by simp +decide only [sG,g5],by simp +decide only [sG,g6],by simp +decide only [sG,g7],by simp +decide only [sG,g8],by simp +decide only [sG,g9],by simp +decide only [sG,g31],by simp +decide only [sG]⟩⟩)
    ⟨H1.mono (by omega),by omega,by rw [getO_tl (by omega),getO_tl (by omega),getO_tl (by omega),getO_hd],by rw [getO_tl (by omega),getO_tl (by omega),getO_hd],by rw [getO_tl (by omega),getO_hd],getO_hd,⟨.nils,.inl ⟨by simp,rfl⟩,by simp +decide only [sG]⟩,by simp +decide only [sG],by simp +decide only [sG],by simp +decide only [sG],by simp +decide only [sG],by simp +decide only [sG],by simp +decide only [sG],by simp +decide only [sG],by simp +decide only [sG],by simp (disch:=first|assumption|omega|(simp (disch:=first|assumption|omega) only [sB,reduceAdd,reduceLT,reduceLeDiff,reduceEqDiff,reduceMul,↓reduceIte];done)|fail) only [sA,↓reduceIte,reduceLT,reduceEqDiff,reduceAdd,reduceLeDiff]⟩
  have X2:=X.hp H2
  have z0':=X2.box
  have zr':=X2.row
  have hG2:∀ m,n2≤m→Gd m h2:=fun m hm=>H2.good' hm
  have eg : (F.cs.map encC).getD k .junk=encC (nm,ty):=by rw [List.getD_eq_getElem?_getD,List.getElem?_map,hc]; rfl
  have hk:k < F.cs.length := (List.getElem?_eq_some_iff.1 hc).1
  have c2:=pOwn
  have c3:∀ m h,Gd m h→callFn (LX (cF Try.prog)) m h [.str nm,.nils] (cF Try.prog 48) = .ok (.agg [.int .i64 10,.int .i64 0,.bool false,.str nm,.nils,.nils]) m h:=fun m h hg=>pConst nm m h hg
  have c4:∀ m h,Gd m h→callFn (LX (cF Try.prog)) m h [.int .i64 (F.Ps.el.length:Nat),.int .i64 (1 + (V.el.length:Int) + (rs.length:Nat))] (cF Try.prog 33) = .ok (slD 6 encT (Sl.app (varsT F.Ps.el.length (1 + (V.el.length:Int) + (rs.length:Nat))))) m h:=fun m h hg=>pVars _ _ (by omega) (by omega) m h hg
  have c5:∀ m h,Gd m h→callFn (LX (cF Try.prog)) m h [.agg [.int .i64 10,.int .i64 0,.bool false,.str nm,.nils,.nils],slD 6 encT (Sl.app (varsT F.Ps.el.length (1 + (V.el.length:Int) + (rs.length:Nat))))] (cF Try.prog 34) = .ok (encT (appT (conT nm) (varsT F.Ps.el.length (1 + (V.el.length:Int) + (rs.length:Nat))))) m h:=fun m h hg=>pApp (conT nm) (by show (varsT _ _).length≤_; rw [varsT_len]; omega) m h hg (Sv.slD (s:=Sl.app (varsT F.Ps.el.length (1 + (V.el.length:Int) + (rs.length:Nat)))) encA)
  have c6:∀ m h,Gd m h→∀ x,callFn (LX (cF Try.prog)) m h [.int .i64 x] (cF Try.prog 35) = .ok (.agg [.int .i64 1,.int .i64 x,.bool false,.str [],.nils,.nils]) m h:=fun m h hg x=>pVar m h hg x
  unfold methT
  generalize varsT F.Ps.el.length (1 + (V.el.length:Int) + (rs.length:Nat))=Q at c4 c5 ⊢
  generalize appT (conT nm) Q=Y at c5 ⊢
  rw [encT_eq] at c5
  have M2:=M.hp hgn H2
  obtain ⟨dR2,mb2,mB2⟩:=M2.box
  have hql2:=M2.ql
  have hfl2:=X2.fl
  simp (disch:=first|assumption|omega|(simp (disch:=first|assumption|omega) only [sB,reduceAdd,reduceLT,reduceLeDiff,reduceEqDiff,reduceMul,↓reduceIte,hG2,gd_nil,gd_tm,hk,getO_tl];done)|fail) only [sA,↓reduceIte,reduceLT,reduceEqDiff,reduceAdd,reduceLeDiff,q10,q1,q3,q5,q6,q7,q8,z3,z5,z6,z7,z0',zr',eg,encC,iaddr_ms,c2,c3,c4,c5,c6,mb2,tr_nilck,keys_gd,hG2,gd_nil,gd_tm,hk,getO_tl]
  have H3:Hp n h (n2+31885837205510) ((n2+31885837205509,(Ob.row 6 [.agg [.int .i64 (varT ((V.el.length+rs.length:Nat):Int)).form,.int .i64 (varT ((V.el.length+rs.length:Nat):Int)).n,.bool (varT ((V.el.length+rs.length:Nat):Int)).hid,.str (varT ((V.el.length+rs.length:Nat):Int)).name,slD 2 encL (varT ((V.el.length+rs.length:Nat):Int)).levels,slD 6 encT (varT ((V.el.length+rs.length:Nat):Int)).kids]])) :: (n2+29686813949952,(Ob.row 6 [.agg [.int .i64 (Y).form,.int .i64 (Y).n,.bool (Y).hid,.str (Y).name,slD 2 encL (Y).levels,slD 6 encT (Y).kids]]))::h2) := (H2.box (r:=n2+29686813949952) (m:=n2+29686813949953) (by omega) (by omega) (flatTA Y)).box (r:=n2+31885837205509) (by omega) (by omega) (flatTA (varT ((V.el.length+rs.length:Nat):Int)))
  generalize hr1:LX (cF Try.prog) (.loop l24_1) _ _ _=r1
  obtain ⟨x,e3,n3,h3,rfl,rfl,H4,p4,kp,zA,zB,v10,v5,v6,v7,v8,v12,v13⟩:=loop_up hr1 W.el.length
    (fun i e n' h'=>Hp n h n' h'∧n2+31885837205510≤n' ∧ (∀ x,x < n2→getO h' x=getO h2 x)∧getO h' (n2+29686813949952) = (Ob.row 6 [.agg [.int .i64 (Y).form,.int .i64 (Y).n,.bool (Y).hid,.str (Y).name,slD 2 encL (Y).levels,slD 6 encT (Y).kids]])∧getO h' (n2+31885837205509) = (Ob.row 6 [.agg [.int .i64 (resT V.el.length rs.length (varT ((V.el.length+rs.length:Nat):Int)) (W.el.take i)).form,.int .i64 (resT V.el.length rs.length (varT ((V.el.length+rs.length:Nat):Int)) (W.el.take i)).n,.bool (resT V.el.length rs.length (varT ((V.el.length+rs.length:Nat):Int)) (W.el.take i)).hid,.str (resT V.el.length rs.length (varT ((V.el.length+rs.length:Nat):Int)) (W.el.take i)).name,slD 2 encL (resT V.el.length rs.length (varT ((V.el.length+rs.length:Nat):Int)) (W.el.take i)).levels,slD 6 encT (resT V.el.length rs.length (varT ((V.el.length+rs.length:Nat):Int)) (W.el.take i)).kids]]) ∧
      get (po 10) e=dS∧get (po 5) e = .ptr (n+1) 0 0∧get (po 6) e = .ptr (n+2) 0 0∧get (po 7) e = .ptr (n+10995116277763) 0 0∧get (po 8) e = .int .i64 (rs.length:Nat)∧get (po 12) e = .ptr (n2+29686813949952) 0 0∧get (po 13) e = .ptr (n2+31885837205509) 0 0 ∧
      get (po 76) e=slD 6 encT W∧get (po 77) e = .int .i64 (W.el.length:Nat)∧get (po 78) e = .int .i64 (i:Nat))
    (fun x e n' h'=>x = .exit 2∧Hp n h n' h'∧n2+31885837205510≤n' ∧ (∀ x,x < n2→getO h' x=getO h2 x)∧getO h' (n2+29686813949952) = (Ob.row 6 [.agg [.int .i64 (Y).form,.int .i64 (Y).n,.bool (Y).hid,.str (Y).name,slD 2 encL (Y).levels,slD 6 encT (Y).kids]])∧getO h' (n2+31885837205509) = (Ob.row 6 [.agg [.int .i64 (resT V.el.length rs.length (varT ((V.el.length+rs.length:Nat):Int)) W.el).form,.int .i64 (resT V.el.length rs.length (varT ((V.el.length+rs.length:Nat):Int)) W.el).n,.bool (resT V.el.length rs.length (varT ((V.el.length+rs.length:Nat):Int)) W.el).hid,.str (resT V.el.length rs.length (varT ((V.el.length+rs.length:Nat):Int)) W.el).name,slD 2 encL (resT V.el.length rs.length (varT ((V.el.length+rs.length:Nat):Int)) W.el).levels,slD 6 encT (resT V.el.length rs.length (varT ((V.el.length+rs.length:Nat):Int)) W.el).kids]]) ∧
      get (po 10) e=dS∧get (po 5) e = .ptr (n+1) 0 0∧get (po 6) e = .ptr (n+2) 0 0∧get (po 7) e = .ptr (n+10995116277763) 0 0∧get (po 8) e = .int .i64 (rs.length:Nat)∧get (po 12) e = .ptr (n2+29686813949952) 0 0∧get (po 13) e = .ptr (n2+31885837205509) 0 0)
    (by
      rintro e n' h' ⟨H,p1,kp,zA,zB,g10,g5,g6,g7,g8,g12,g13,g76,g77,g78⟩
      rw [List.take_length] at zB
      unfold l24_1
      simp (disch:=first|assumption|omega|(simp (disch:=first|assumption|omega) only [sB,reduceAdd,reduceLT,reduceLeDiff,reduceEqDiff,reduceMul,↓reduceIte];done)|fail) only [sA,↓reduceIte,reduceLT,reduceEqDiff,reduceAdd,reduceLeDiff,g76,g77,g78]
      exact ⟨_,_,_,_,rfl,by simp,rfl,H.mono (by omega),by omega,kp,zA,zB,by simp +decide only [sG,g10],by simp +decide only [sG,g5],by simp +decide only [sG,g6],by simp +decide only [sG,g7],by simp +decide only [sG,g8],by simp +decide only [sG,g12],by simp +decide only [sG,g13]⟩)
    (by
      rintro i e n' h' hi ⟨H,p1,kp,zA,zB,g10,g5,g6,g7,g8,g12,g13,g76,g77,g78⟩
      obtain ⟨s1,s2⟩:=sW W.el[i] (List.getElem_mem hi)
      have y7:getO h' (n+10995116277763) = .row 1 [.int .i64 (V.el.length:Nat)]:=by rw [kp _ (by omega)]; exact z7
      rw [resT_take hi]
      generalize hT:resT V.el.length rs.length (varT ((V.el.length+rs.length:Nat):Int)) (W.el.take i)=T at zB ⊢
      have eW:∀ hh,encT (W.el[i]'hh) = (D.agg [.int .i64 (W.el[i]).form,.int .i64 (W.el[i]).n,.bool (W.el[i]).hid,.str (W.el[i]).name,slD 2 encL (W.el[i]).levels,slD 6 encT (W.el[i]).kids]):=fun hh=>encT_eq _
      have c7:∀ m h,Gd m h→callFn (LX (cF Try.prog)) m h [(D.agg [.int .i64 (W.el[i]).form,.int .i64 (W.el[i]).n,.bool (W.el[i]).hid,.str (W.el[i]).name,slD 2 encL (W.el[i]).levels,slD 6 encT (W.el[i]).kids]),.int .i64 (V.el.length:Nat),.int .i64 1] (cF Try.prog 31) = .ok (encT (liftT (V.el.length:Nat) 1 W.el[i])) m h:=fun m h hg=>pLift' m h hg _ _ 1 (by omega) (by omega) s1
      generalize liftT (V.el.length:Nat) 1 W.el[i]=L1 at c7 s2 ⊢
      have c8:∀ m h,Gd m h→callFn (LX (cF Try.prog)) m h [(D.agg [.int .i64 (L1).form,.int .i64 (L1).n,.bool (L1).hid,.str (L1).name,slD 2 encL (L1).levels,slD 6 encT (L1).kids]),.int .i64 0,.int .i64 (rs.length:Nat)] (cF Try.prog 31) = .ok (encT (liftT 0 (rs.length:Nat) L1)) m h:=fun m h hg=>pLift' m h hg _ 0 _ (by omega) (by omega) s2
      generalize liftT 0 (rs.length:Nat) L1=L2 at c8 ⊢
      have c9:∀ m h,Gd m h→callFn (LX (cF Try.prog)) m h [(D.agg [.int .i64 (T).form,.int .i64 (T).n,.bool (T).hid,.str (T).name,slD 2 encL (T).levels,slD 6 encT (T).kids]),.sl 6 [(D.agg [.int .i64 (L2).form,.int .i64 (L2).n,.bool (L2).hid,.str (L2).name,slD 2 encL (L2).levels,slD 6 encT (L2).kids])] [] true] (cF Try.prog 34) = .ok (encT (two 5 T L2)) m h:=fun m h hg=>by
        have:=pApp T (l:=[L2]) (by simp) m h hg (Sv.slD (s:=⟨false,true,[L2],[]⟩) encA)
        rw [show slD 6 encT (⟨false,true,[L2],[]⟩:Sl Tm) = .sl 6 [encT L2] [] true from rfl,encT_eq L2] at this
        exact this
      generalize two 5 T L2=T' at c9 ⊢
      rw [encT_eq] at c7 c8 c9
      unfold l24_1
      have hG':∀ m,n'≤m→Gd m h':=fun m hm=>H.good' hm
      simp (disch:=first|assumption|omega|(simp (disch:=first|assumption|omega) only [sB,reduceAdd,reduceLT,reduceLeDiff,reduceEqDiff,reduceMul,↓reduceIte,hi,hG',gd_nil,gd_tm,getO_tl];done)|fail) only [sA,↓reduceIte,reduceLT,reduceEqDiff,reduceAdd,reduceLeDiff,g10,g5,g6,g7,g8,g12,g13,g76,g77,g78,y7,zB,eW,c7,c8,c9,keys_gd,hi,hG',gd_nil,gd_tm,getO_tl]
      exact ⟨_,_,_,_,rfl,.inl ⟨rfl,((H.set (r:=n2+31885837205509) (by omega) (fun k hk=>lowO_one (low_flat (flatTA T')))).box (r:=n'+3) (m:=n'+4) (by omega) (by omega) (flatTA W.el[i])).mono (by omega),by omega,fun x hx=>by rw [getO_tl (by omega),getO_setO _ _ _ _ (by rw [zB]; simp),if_neg (by omega)]; exact kp x hx,by rw [getO_tl (by omega),getO_set2 zB zA (by omega)],by rw [getO_tl (by omega),getO_set1 zB],
        by simp +decide only [sG,g10],by simp +decide only [sG,g5],by simp +decide only [sG,g6],by simp +decide only [sG,g7],by simp +decide only [sG,g8],by simp +decide only [sG,g12],by simp +decide only [sG,g13],by simp +decide only [sG,g76],by simp +decide only [sG,g77],by simp +decide only [sG]⟩⟩)
    ⟨H3.mono (by omega),by omega,fun x hx=>by rw [getO_tl (by omega),getO_tl (by omega)],by rw [getO_tl (by omega),getO_hd],getO_hd,by simp +decide only [sG,q10],by simp +decide only [sG,q5],by simp +decide only [sG,q6],by simp +decide only [sG,q7],by simp +decide only [sG,q8],by simp +decide only [sG],by simp +decide only [sG],by simp +decide only [sG],by simp +decide only [sG],by simp (disch:=first|assumption|omega|(simp (disch:=first|assumption|omega) only [sB,reduceAdd,reduceLT,reduceLeDiff,reduceEqDiff,reduceMul,↓reduceIte];done)|fail) only [sA,↓reduceIte,reduceLT,reduceEqDiff,reduceAdd,reduceLeDiff]⟩
  have y5:getO h3 (n+1) = .row 1 [.ptr q 0 0]:=by rw [kp _ (by omega)]; exact z5
  have y6:getO h3 (n+2) = (Ob.row 6 [.agg [.int .i64 0,.int .i64 0,.bool false,.str [],.nils,.nils]]):=by rw [kp _ (by omega)]; exact z6
  have y7:getO h3 (n+10995116277763) = .row 1 [.int .i64 (V.el.length:Nat)]:=by rw [kp _ (by omega)]; exact z7
  have yq:getO h3 q = .row 3 [.agg [slD 6 encT V,dR2,slD 6 encT W]]:=by rw [kp _ (by omega)]; exact mb2
  have BS3:Bld 6 encT (n+10995116277764) (rangeT B rs.length) h3 dS:=BS.keep fun r' e=>by
    rcases BS with ⟨_,e2⟩ | ⟨p,_,_,e2,g⟩
    · rw [e2] at e; cases e
    · rw [e2] at e; injection e with _ e _ _ _
      subst e
      exact kp _ (getO_low (H2.good n2 (Nat.le_refl _)) (by rw [g]; exact fun h=>by cases h))
  generalize resT V.el.length rs.length (varT ((V.el.length+rs.length:Nat):Int)) W.el=T at zB ⊢
  have c7:∀ m h,Gd m h→callFn (LX (cF Try.prog)) m h [.int .i64 (V.el.length:Nat),.int .i64 (rs.length:Nat)] (cF Try.prog 33) = .ok (slD 6 encT (Sl.app (varsT V.el.length (rs.length:Nat)))) m h:=fun m h hg=>pVars _ _ (by omega) (by omega) m h hg
  have c8:∀ m h,Gd m h→callFn (LX (cF Try.prog)) m h [(D.agg [.int .i64 (Y).form,.int .i64 (Y).n,.bool (Y).hid,.str (Y).name,slD 2 encL (Y).levels,slD 6 encT (Y).kids]),slD 6 encT (Sl.app (varsT V.el.length (rs.length:Nat)))] (cF Try.prog 34) = .ok (encT (appT Y (varsT V.el.length (rs.length:Nat)))) m h:=fun m h hg=>pApp Y (by show (varsT _ _).length≤_; rw [varsT_len]; omega) m h hg (Sv.slD (s:=Sl.app (varsT V.el.length (rs.length:Nat))) encA)
  generalize varsT V.el.length (rs.length:Nat)=Q2 at c7 c8 ⊢
  generalize appT Y Q2=Y2 at c8 ⊢
  have c9:∀ m h,Gd m h→callFn (LX (cF Try.prog)) m h [(D.agg [.int .i64 (T).form,.int .i64 (T).n,.bool (T).hid,.str (T).name,slD 2 encL (T).levels,slD 6 encT (T).kids]),.sl 6 [(D.agg [.int .i64 (Y2).form,.int .i64 (Y2).n,.bool (Y2).hid,.str (Y2).name,slD 2 encL (Y2).levels,slD 6 encT (Y2).kids])] [] true] (cF Try.prog 34) = .ok (encT (two 5 T Y2)) m h:=fun m h hg=>by
    have:=pApp T (l:=[Y2]) (by simp) m h hg (Sv.slD (s:=⟨false,true,[Y2],[]⟩) encA)
    rw [show slD 6 encT (⟨false,true,[Y2],[]⟩:Sl Tm) = .sl 6 [encT Y2] [] true from rfl,encT_eq Y2] at this
    exact this
  generalize two 5 T Y2=T2 at c9 ⊢
  have c10:∀ m h,Gd m h→callFn (LX (cF Try.prog)) m h [slD 6 encT V,.int .i64 1] (cF Try.prog 37) = .ok (slD 6 encT (Sl.app (liftedT V.el 1))) m h:=fun m h hg=>pLifted 1 (by omega) (by omega) sV m h hg (Sv.slD encA)
  have hL : (liftedT V.el 1).length≤1000:=by unfold liftedT; rw [List.length_mapIdx]; exact hV
  rw [encT_eq] at c8 c9
  have hG3:∀ m,n3≤m→Gd m h3:=fun m hm=>H4.good' hm
  have w5:∀ X,getO (setO h3 (n2+31885837205509) X) (n+1) = .row 1 [.ptr q 0 0]:=fun X=>by rw [getO_set2 zB y5 (by omega)]
  have w6:∀ X,getO (setO h3 (n2+31885837205509) X) (n+2) = (Ob.row 6 [.agg [.int .i64 0,.int .i64 0,.bool false,.str [],.nils,.nils]]):=fun X=>by rw [getO_set2 zB y6 (by omega)]
  have wq:∀ X,getO (setO h3 (n2+31885837205509) X) q = .row 3 [.agg [slD 6 encT V,dR2,slD 6 encT W]]:=fun X=>by rw [getO_set2 zB yq (by omega)]
  have wB:∀ X,getO (setO h3 (n2+31885837205509) X) (n2+31885837205509)=X:=fun X=>getO_set1 zB
  have H5:Hp n h n3 (setO h3 (n2+31885837205509) (Ob.row 6 [.agg [.int .i64 (T2).form,.int .i64 (T2).n,.bool (T2).hid,.str (T2).name,slD 2 encL (T2).levels,slD 6 encT (T2).kids]])):=H4.set (r:=n2+31885837205509) (by omega) (fun k hk=>lowO_one (low_flat (flatTA T2)))
  have B5:=BS3.setz (x := (Ob.row 6 [.agg [.int .i64 (T2).form,.int .i64 (T2).n,.bool (T2).hid,.str (T2).name,slD 2 encL (T2).levels,slD 6 encT (T2).kids]])) zB (BS.off (H2.good n2 (Nat.le_refl _)) (by omega))
  have hRl : (rangeT B rs.length).length≤1000000000:=by simp [rangeT]; omega
  have c11:∀ m,n3≤m→callFn (LX (cF Try.prog)) m (setO h3 (n2+31885837205509) (Ob.row 6 [.agg [.int .i64 (T2).form,.int .i64 (T2).n,.bool (T2).hid,.str (T2).name,slD 2 encL (T2).levels,slD 6 encT (T2).kids]])) [dS,(D.agg [.int .i64 (T2).form,.int .i64 (T2).n,.bool (T2).hid,.str (T2).name,slD 2 encL (T2).levels,slD 6 encT (T2).kids])] (cF Try.prog 36) = .ok (encT (pisT (rangeT B rs.length) T2)) m (setO h3 (n2+31885837205509) (Ob.row 6 [.agg [.int .i64 (T2).form,.int .i64 (T2).n,.bool (T2).hid,.str (T2).name,slD 2 encL (T2).levels,slD 6 encT (T2).kids]])):=fun m hm=>by
    obtain ⟨ad,SV⟩:=B5.sv (H5.good m hm) encA
    exact pPis T2 hRl m _ (H5.good' hm) SV
  generalize pisT (rangeT B rs.length) T2=T3 at c11 ⊢
  have c12:∀ m h,Gd m h→callFn (LX (cF Try.prog)) m h [slD 6 encT (Sl.app (liftedT V.el 1)),(D.agg [.int .i64 (T3).form,.int .i64 (T3).n,.bool (T3).hid,.str (T3).name,slD 2 encL (T3).levels,slD 6 encT (T3).kids])] (cF Try.prog 36) = .ok (encT (pisT (liftedT V.el 1) T3)) m h:=fun m h hg=>pPis T3 (by show (liftedT _ _).length≤_; omega) m h hg (Sv.slD (s:=Sl.app (liftedT V.el 1)) encA)
  generalize liftedT V.el 1=LV at c10 c12 hL ⊢
  generalize pisT LV T3=T4 at c12 ⊢
  rw [encT_eq] at c11 c12 ⊢
  have oS:=BS3.okD
  have hG5:∀ m,n3≤m→Gd m (setO h3 (n2+31885837205509) (Ob.row 6 [.agg [.int .i64 (T2).form,.int .i64 (T2).n,.bool (T2).hid,.str (T2).name,slD 2 encL (T2).levels,slD 6 encT (T2).kids]])):=fun m hm=>H5.good' hm
  have hky:∀ m,n3≤m→keysFrom m (setO h3 (n2+31885837205509) (Ob.row 6 [.agg [.int .i64 (T2).form,.int .i64 (T2).n,.bool (T2).hid,.str (T2).name,slD 2 encL (T2).levels,slD 6 encT (T2).kids]]))=[]:=fun m hm=>keys_low (H5.good m hm)
  have w26:∀ X,getO (setO (setO h3 (n2+31885837205509) (Ob.row 6 [.agg [.int .i64 (T2).form,.int .i64 (T2).n,.bool (T2).hid,.str (T2).name,slD 2 encL (T2).levels,slD 6 encT (T2).kids]])) (n+2) X) (n+2)=X:=fun X=>getO_set1 (w6 _)
  simp (disch:=first|assumption|omega|(simp (disch:=first|assumption|omega) only [sB,reduceAdd,reduceLT,reduceLeDiff,reduceEqDiff,reduceMul,↓reduceIte,hG3,hG5,gd_nil,gd_tm,getO_tl];done)|fail) only [sA,↓reduceIte,reduceLT,reduceEqDiff,reduceAdd,reduceLeDiff,v10,v5,v6,v7,v8,v12,v13,y5,y6,y7,yq,zA,zB,w5,w6,wq,wB,w26,c7,c8,c9,c10,c11,c12,oS,hky,tr_nilck,keys_gd,hG3,hG5,gd_nil,gd_tm,getO_tl]
  exact finish_flat (flatTA T4) ((H5.set (r:=n+2) (by omega) (fun k hk=>lowO_one (low_flat (flatTA T4)))).mono (by omega))
end Go.Proofs.Ytpbpmpabndgeeaa
set_option linter.unusedSimpArgs false
set_option linter.unusedVariables false
namespace Go.Proofs.Ytpbpmpabndgeeaa
open Go
open Nat (reduceAdd reduceLT reduceLeDiff reduceEqDiff reduceMul)

def selfT (nm:List Nat) (P:Nat) (params:Int) (l:List Tm):Tm:=appT (appT (conT nm) (varsT P params)) l
set_option maxHeartbeats 8000000 in
theorem pSelf {F:Fa} {f r n:Nat} {h:Hps} (hg:Gd n h) (X:Fat F f r n h) (hP:F.Ps.el.length≤1000) (params:Int) (hp:0≤params∧params≤1000000) (s:Sl Tm) (hs:s.el.length≤1000000) :
    callFn (LX (cF Try.prog)) n h [.ptr f 0 0,.int .i64 params,slD 6 encT s] (cF Try.prog 32) = .ok (encT (selfT F.nm F.Ps.el.length params s.el)) n h:=by
  have hgn:=hg n (Nat.le_refl _)
  have hG:∀ m,n≤m→Gd m h:=fun m hm=>hg.mono hm
  have z0:=X.box
  have hfl:=X.fl
  have c2:=pOwn
  have c3:∀ m h,Gd m h→callFn (LX (cF Try.prog)) m h [.str F.nm,.nils] (cF Try.prog 48) = .ok (.agg [.int .i64 10,.int .i64 0,.bool false,.str F.nm,.nils,.nils]) m h:=fun m h hg=>pConst F.nm m h hg
  have c4:∀ m h,Gd m h→callFn (LX (cF Try.prog)) m h [.int .i64 (F.Ps.el.length:Nat),.int .i64 params] (cF Try.prog 33) = .ok (slD 6 encT (Sl.app (varsT F.Ps.el.length params))) m h:=fun m h hg=>pVars _ _ (by omega) hp m h hg
  have c5:∀ m h,Gd m h→callFn (LX (cF Try.prog)) m h [.agg [.int .i64 10,.int .i64 0,.bool false,.str F.nm,.nils,.nils],slD 6 encT (Sl.app (varsT F.Ps.el.length params))] (cF Try.prog 34) = .ok (encT (appT (conT F.nm) (varsT F.Ps.el.length params))) m h:=fun m h hg=>pApp (conT F.nm) (by show (varsT _ _).length≤_; rw [varsT_len]; omega) m h hg (Sv.slD (s:=Sl.app (varsT F.Ps.el.length params)) encA)
  unfold selfT
  generalize varsT F.Ps.el.length params=Q at c4 c5 ⊢
  generalize appT (conT F.nm) Q=Y at c5 ⊢
  have c6:∀ m h,Gd m h→callFn (LX (cF Try.prog)) m h [(D.agg [.int .i64 (Y).form,.int .i64 (Y).n,.bool (Y).hid,.str (Y).name,slD 2 encL (Y).levels,slD 6 encT (Y).kids]),slD 6 encT s] (cF Try.prog 34) = .ok (encT (appT Y s.el)) m h:=fun m h hg=>pApp Y (by omega) m h hg (Sv.slD encA)
  generalize appT Y s.el=Z at c6 ⊢
  rw [encT_eq] at c5 c6 ⊢
  rw [f32_eq]; unfold c32; rw [callFn_eq (by rfl)]
  simp (disch:=first|assumption|omega|(simp (disch:=first|assumption|omega) only [sB,reduceAdd,reduceLT,reduceLeDiff,reduceEqDiff,reduceMul,↓reduceIte,hG,gd_nil,gd_zt,gd_tm,getO_tl];done)|fail) only [sA,↓reduceIte,reduceLT,reduceEqDiff,reduceAdd,reduceLeDiff,z0,c2,c3,c4,c5,c6,tr_nilck,keys_gd,hG,gd_nil,gd_zt,gd_tm,getO_tl]
def lvl0:SLev:=⟨0,⟨false,true,[⟨0,0⟩],[]⟩⟩
def motT (nm:List Nat) (P:Nat) (Is:List Tm):Tm:=pisT Is (two 3 (selfT nm P (Is.length:Nat) (varsT Is.length 0)) (sortT lvl0))
set_option maxHeartbeats 8000000 in
theorem pMotive {F:Fa} {f r n:Nat} {h:Hps} (hg:Gd n h) (X:Fat F f r n h) (hP:F.Ps.el.length≤1000) (hI:F.Is.el.length≤1000) :
    callFn (LX (cF Try.prog)) n h [.ptr f 0 0] (cF Try.prog 39) = .ok (encT (motT F.nm F.Ps.el.length F.Is.el)) n h:=by
  have hgn:=hg n (Nat.le_refl _)
  have hG:∀ m,n≤m→Gd m h:=fun m hm=>hg.mono hm
  have z0:=X.box
  have hfl:=X.fl
  have c1:∀ m h,Gd m h→callFn (LX (cF Try.prog)) m h [.int .i64 (F.Is.el.length:Nat),.int .i64 0] (cF Try.prog 33) = .ok (slD 6 encT (Sl.app (varsT F.Is.el.length 0))) m h:=fun m h hg=>pVars _ _ (by omega) (by omega) m h hg
  have hq : (varsT F.Is.el.length 0).length=F.Is.el.length:=varsT_len _ _
  unfold motT
  generalize varsT F.Is.el.length 0=Q at c1 hq ⊢
  have gdl:∀ {m r:Nat} {g:Hps},r < m→Gd m ((r,.row 2 [.agg [.int .i64 0,.sl 2 [.agg [.int .i64 0,.int .i64 0]] [] true]])::g)=Gd m g:=fun {m r g} hr=>gd_flat rfl hr
  have H0:Hp n h (n+16) ((n+15,.row 2 [.agg [.int .i64 0,.sl 2 [.agg [.int .i64 0,.int .i64 0]] [] true]]) :: (n,(Ob.row 6 [.agg [.int .i64 0,.int .i64 0,.bool false,.str [],.nils,.nils]]))::h) := ((Hp.start hg).box (r:=n) (m:=n+1) (k:=6) (d := (D.agg [.int .i64 0,.int .i64 0,.bool false,.str [],.nils,.nils])) (Nat.le_refl _) (by omega) rfl).box (r:=n+15) (by omega) (by omega) rfl
  have c2:∀ m,n+16≤m→callFn (LX (cF Try.prog)) m ((n+15,.row 2 [.agg [.int .i64 0,.sl 2 [.agg [.int .i64 0,.int .i64 0]] [] true]]) :: (n,(Ob.row 6 [.agg [.int .i64 0,.int .i64 0,.bool false,.str [],.nils,.nils]]))::h) [.ptr f 0 0,.int .i64 (F.Is.el.length:Nat),slD 6 encT (Sl.app Q)] (cF Try.prog 32) = .ok (encT (selfT F.nm F.Ps.el.length (F.Is.el.length:Nat) Q)) m ((n+15,.row 2 [.agg [.int .i64 0,.sl 2 [.agg [.int .i64 0,.int .i64 0]] [] true]]) :: (n,(Ob.row 6 [.agg [.int .i64 0,.int .i64 0,.bool false,.str [],.nils,.nils]]))::h):=fun m hm=>pSelf (H0.good' hm) (X.hp (H0.mono hm)) hP _ (by omega) (Sl.app Q) (by show Q.length≤_; omega)
  generalize selfT F.nm F.Ps.el.length (F.Is.el.length:Nat) Q=Y at c2 ⊢
  have c3:∀ m h,Gd m h→callFn (LX (cF Try.prog)) m h [.agg [.int .i64 0,.sl 2 [.agg [.int .i64 0,.int .i64 0]] [] true]] (cF Try.prog 64) = .ok (encT (sortT lvl0)) m h:=fun m h hg=>pSort lvl0 (by simp [lvl0]) m h hg
  generalize sortT lvl0=Z at c3 ⊢
  have c4:∀ m h,Gd m h→callFn (LX (cF Try.prog)) m h [.int .i64 3,.bool false,(D.agg [.int .i64 (Y).form,.int .i64 (Y).n,.bool (Y).hid,.str (Y).name,slD 2 encL (Y).levels,slD 6 encT (Y).kids]),(D.agg [.int .i64 (Z).form,.int .i64 (Z).n,.bool (Z).hid,.str (Z).name,slD 2 encL (Z).levels,slD 6 encT (Z).kids])] (cF Try.prog 38) = .ok (encT (two 3 Y Z)) m h:=fun m h hg=>pBind 3 Y Z m h hg
  generalize two 3 Y Z=U at c4 ⊢
  have c5:∀ m h,Gd m h→callFn (LX (cF Try.prog)) m h [slD 6 encT F.Is,(D.agg [.int .i64 (U).form,.int .i64 (U).n,.bool (U).hid,.str (U).name,slD 2 encL (U).levels,slD 6 encT (U).kids])] (cF Try.prog 36) = .ok (encT (pisT F.Is.el U)) m h:=fun m h hg=>pPis U (by omega) m h hg (Sv.slD encA)
  generalize pisT F.Is.el U=R at c5 ⊢
  rw [encT_eq] at c2 c3 c4 c5 ⊢
  rw [f39_eq]; unfold c39; rw [callFn_eq (by rfl)]
  simp (disch:=first|assumption|omega|(simp (disch:=first|assumption|omega) only [sB,reduceAdd,reduceLT,reduceLeDiff,reduceEqDiff,reduceMul,↓reduceIte,hG,gdl,gd_nil,gd_zt,gd_tm,getO_tl];done)|fail) only [sA,↓reduceIte,reduceLT,reduceEqDiff,reduceAdd,reduceLeDiff,z0,c1,c2,c3,c4,c5,tr_nilck,keys_gd,hG,gdl,gd_nil,gd_zt,gd_tm,getO_tl]
end Go.Proofs.Ytpbpmpabndgeeaa
