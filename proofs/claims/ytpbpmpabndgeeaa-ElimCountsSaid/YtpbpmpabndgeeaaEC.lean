/- Copies, lifted rows, telescopes and rows of applications taken apart. No condition but sizes. -/
import Derived.Test.YtpbpmpabndgeeaaTXF
import Derived.Test.YtpbpmpabndgeeaaTMD
set_option linter.unusedSimpArgs false
set_option linter.unusedVariables false
namespace Go.Proofs.Ytpbpmpabndgeeaa
open Go
open Nat (reduceAdd reduceLT reduceLeDiff reduceEqDiff reduceMul)

def two (f:Int) (a b:Tm):Tm := .mk f 0 false [] (Sl.app []) false true [a,b] []
theorem two_enc (f:Int) (a b:Tm):encT (two f a b) = .agg [.int .i64 f,.int .i64 0,.bool false,.str [],.nils,.sl 6 [encT a,encT b] [] true]:=rfl
theorem two_box (f:Int) (a b:Tm) : (Ob.row 6 [.agg [.int .i64 (two f a b).form,.int .i64 (two f a b).n,.bool (two f a b).hid,.str (two f a b).name,slD 2 encL (two f a b).levels,slD 6 encT (two f a b).kids]]) = .row 6 [.agg [.int .i64 f,.int .i64 0,.bool false,.str [],.nils,.sl 6 [encT a,encT b] [] true]]:=rfl
def appT (f:Tm) (l:List Tm):Tm:=l.foldl (two 5) f
theorem appT_take {f:Tm} {l:List Tm} {i:Nat} (hi:i < l.length):appT f (l.take (i+1))=two 5 (appT f (l.take i)) l[i]:=by
  unfold appT
  rw [← List.take_append_getElem hi,List.foldl_append]
  rfl
set_option maxHeartbeats 4000000 in
theorem pApp (f:Tm) {d:D} {l:List Tm} {ad:Nat→D} (hl:l.length≤1000000000) (n:Nat) (h:Hps) (hg:Gd n h) (S:Sv 6 encT n h d l ad):callFn (LX (cF Try.prog)) n h [(D.agg [.int .i64 (f).form,.int .i64 (f).n,.bool (f).hid,.str (f).name,slD 2 encL (f).levels,slD 6 encT (f).kids]),d] (cF Try.prog 34) = .ok (encT (appT f l)) n h:=by
  have hgn:=hg n (Nat.le_refl _)
  have H0:Hp n h (n+2) ((n+1,(Ob.row 6 [.agg [.int .i64 0,.int .i64 0,.bool false,.str [],.nils,.nils]])) :: (n,(Ob.row 6 [.agg [.int .i64 (f).form,.int .i64 (f).n,.bool (f).hid,.str (f).name,slD 2 encL (f).levels,slD 6 encT (f).kids]]))::h) := ((Hp.start hg).box (r:=n) (m:=n+1) (Nat.le_refl _) (by omega) (flatTA f)).box (r:=n+1) (m:=n+2) (k:=6) (d := (D.agg [.int .i64 0,.int .i64 0,.bool false,.str [],.nils,.nils])) (by omega) (by omega) rfl
  have s1:=S.len
  rw [f34_eq]; unfold c34; rw [callFn_eq (by rfl)]
  simp (disch:=first|assumption|omega|(simp (disch:=first|assumption|omega) only [sB,reduceAdd,reduceLT,reduceLeDiff,reduceEqDiff,reduceMul,↓reduceIte];done)|fail) only [sA,↓reduceIte,reduceLT,reduceEqDiff,reduceAdd,reduceLeDiff,s1]
  generalize hr:LX (cF Try.prog) (.loop l34_0) _ _ _=r
  obtain ⟨x,e2,n2,h2,rfl,rfl,H2,p2,z0,z1,q2,q4⟩:=loop_up hr l.length
    (fun i e n' h'=>Hp n h n' h'∧n+2≤n'∧getO h' n = (Ob.row 6 [.agg [.int .i64 (appT f (l.take i)).form,.int .i64 (appT f (l.take i)).n,.bool (appT f (l.take i)).hid,.str (appT f (l.take i)).name,slD 2 encL (appT f (l.take i)).levels,slD 6 encT (appT f (l.take i)).kids]])∧getO h' (n+1) = (Ob.row 6 [.agg [.int .i64 0,.int .i64 0,.bool false,.str [],.nils,.nils]])∧get (po 2) e = .ptr n 0 0∧get (po 4) e = .ptr (n+1) 0 0∧get (po 7) e=d∧get (po 8) e = .int .i64 (l.length:Nat)∧get (po 9) e = .int .i64 (i:Nat))
    (fun x e n' h'=>x = .exit 0∧Hp n h n' h'∧n+2≤n'∧getO h' n = (Ob.row 6 [.agg [.int .i64 (appT f l).form,.int .i64 (appT f l).n,.bool (appT f l).hid,.str (appT f l).name,slD 2 encL (appT f l).levels,slD 6 encT (appT f l).kids]])∧getO h' (n+1) = (Ob.row 6 [.agg [.int .i64 0,.int .i64 0,.bool false,.str [],.nils,.nils]])∧get (po 2) e = .ptr n 0 0∧get (po 4) e = .ptr (n+1) 0 0)
    (by
      rintro e n' h' ⟨H,p1,z0,z1,g2,g4,g7,g8,g9⟩
      rw [List.take_length] at z0
      unfold l34_0
      simp (disch:=first|assumption|omega|(simp (disch:=first|assumption|omega) only [sB,reduceAdd,reduceLT,reduceLeDiff,reduceEqDiff,reduceMul,↓reduceIte];done)|fail) only [sA,↓reduceIte,reduceLT,reduceEqDiff,reduceAdd,reduceLeDiff,g2,g4,g7,g8,g9]
      exact ⟨_,_,_,_,rfl,by simp,rfl,H.mono (by omega),by omega,z0,z1,by simp +decide only [sG,g2],by simp +decide only [sG,g4]⟩)
    (by
      rintro i e n' h' hi ⟨H,p1,z0,z1,g2,g4,g7,g8,g9⟩
      have hle:=H.le
      have s2:=fun m g=>S.idx m g i hi
      have s3:=fun m=>S.at H m i hi
      rw [encT_eq] at s3
      generalize hX:appT f (l.take i)=X at z0
      unfold l34_0
      simp (disch:=first|assumption|omega|(simp (disch:=first|assumption|omega) only [sB,reduceAdd,reduceLT,reduceLeDiff,reduceEqDiff,reduceMul,↓reduceIte];done)|fail) only [sA,↓reduceIte,reduceLT,reduceEqDiff,reduceAdd,reduceLeDiff,g2,g4,g7,g8,g9,s2,s3,z0,z1]
      have e1 : (Ob.row 6 [.agg [.int .i64 (two 5 X l[i]).form,.int .i64 (two 5 X l[i]).n,.bool (two 5 X l[i]).hid,.str (two 5 X l[i]).name,slD 2 encL (two 5 X l[i]).levels,slD 6 encT (two 5 X l[i]).kids]]) = .row 6 [.agg [.int .i64 5,.int .i64 0,.bool false,.str [],.nils,.sl 6 [(D.agg [.int .i64 (X).form,.int .i64 (X).n,.bool (X).hid,.str (X).name,slD 2 encL (X).levels,slD 6 encT (X).kids]),(D.agg [.int .i64 (l[i]).form,.int .i64 (l[i]).n,.bool (l[i]).hid,.str (l[i]).name,slD 2 encL (l[i]).levels,slD 6 encT (l[i]).kids])] [] true]]:=by rw [two_box,encT_eq,encT_eq]
      exact ⟨_,_,_,_,rfl,.inl ⟨rfl,(((H.set (r:=n) (by omega) (fun k hk=>by rw [← e1]; exact lowO_one (low_flat (flatTA _)))).box (r:=n'+3) (m:=n'+4) (by omega) (by omega) (flatTA l[i]))).mono (by omega),by omega,by rw [getO_tl (by omega),getO_set1 z0,appT_take hi,hX,← e1],by rw [getO_tl (by omega),getO_set2 z0 z1 (by omega)],by simp +decide only [sG,g2],by simp +decide only [sG,g4],by simp +decide only [sG,g7],by simp +decide only [sG,g8],by simp +decide only [sG]⟩⟩)
    ⟨H0.mono (by omega),by omega,by rw [getO_tl (by omega),getO_hd]; rfl,getO_hd,by simp +decide only [sG],by simp +decide only [sG],by simp +decide only [sG],by simp +decide only [sG],by simp (disch:=first|assumption|omega|(simp (disch:=first|assumption|omega) only [sB,reduceAdd,reduceLT,reduceLeDiff,reduceEqDiff,reduceMul,↓reduceIte];done)|fail) only [sA,↓reduceIte,reduceLT,reduceEqDiff,reduceAdd,reduceLeDiff]⟩
  have w:∀ X,getO (setO h2 (n+1) X) (n+1)=X:=fun X=>getO_setO_same (by rw [z1]; simp)
  rw [encT_eq]
  simp (disch:=first|assumption|omega|(simp (disch:=first|assumption|omega) only [sB,reduceAdd,reduceLT,reduceLeDiff,reduceEqDiff,reduceMul,↓reduceIte];done)|fail) only [sA,↓reduceIte,reduceLT,reduceEqDiff,reduceAdd,reduceLeDiff,q2,q4,z0,z1,w]
  exact finish_flat (flatTA _) ((H2.set (r:=n+1) (by omega) (fun k hk=>lowO_one (low_flat (flatTA _)))).mono (by omega))
end Go.Proofs.Ytpbpmpabndgeeaa
set_option linter.unusedSimpArgs false
set_option linter.unusedVariables false
namespace Go.Proofs.Ytpbpmpabndgeeaa
open Go
open Nat (reduceAdd reduceLT reduceLeDiff reduceEqDiff reduceMul)

theorem pBind (f:Int) (a t:Tm) (n:Nat) (h:Hps) (hg:Gd n h):callFn (LX (cF Try.prog)) n h [.int .i64 f,.bool false,(D.agg [.int .i64 (a).form,.int .i64 (a).n,.bool (a).hid,.str (a).name,slD 2 encL (a).levels,slD 6 encT (a).kids]),(D.agg [.int .i64 (t).form,.int .i64 (t).n,.bool (t).hid,.str (t).name,slD 2 encL (t).levels,slD 6 encT (t).kids])] (cF Try.prog 38) = .ok (encT (two f a t)) n h:=by
  have hgn:=hg n (Nat.le_refl _)
  rw [two_enc,encT_eq,encT_eq]
  rw [f38_eq]; unfold c38; rw [callFn_eq (by rfl)]
  simp (disch:=first|assumption|omega|(simp (disch:=first|assumption|omega) only [sB,reduceAdd,reduceLT,reduceLeDiff,reduceEqDiff,reduceMul,↓reduceIte];done)|fail) only [sA,↓reduceIte,reduceLT,reduceEqDiff,reduceAdd,reduceLeDiff]
def conT (nm:List Nat):Tm := .mk 10 0 false nm (Sl.app []) true false [] []
theorem lev_nil (m:Nat) (h:Hps) (hg:Gd m h):callFn (LX (cF Try.prog)) m h [.nils] (cF Try.prog 73) = .ok .nils m h:=pRawLevels m h hg (Sl.app []) (by simp [Sl.app]) (fun x hx=>by cases hx)
theorem pConst (nm:List Nat) (n:Nat) (h:Hps) (hg:Gd n h):callFn (LX (cF Try.prog)) n h [.str nm,.nils] (cF Try.prog 48) = .ok (encT (conT nm)) n h:=by
  have hgn:=hg n (Nat.le_refl _)
  have hG:∀ m,n≤m→Gd m h:=fun m hm=>hg.mono hm
  have c1:=lev_nil
  show _=Rd.ok (.agg [.int .i64 10,.int .i64 0,.bool false,.str nm,.nils,.nils]) n h
  rw [f48_eq]; unfold c48; rw [callFn_eq (by rfl)]
  simp (disch:=first|assumption|omega|(simp (disch:=first|assumption|omega) only [sB,reduceAdd,reduceLT,reduceLeDiff,reduceEqDiff,reduceMul,↓reduceIte,hG,gd_zt];done)|fail) only [sA,↓reduceIte,reduceLT,reduceEqDiff,reduceAdd,reduceLeDiff,c1,hG,gd_zt]
def sortT (x:SLev):Tm := .mk 2 0 false [] (Sl.app [cloneL x]) true false [] []
theorem pSort (x:SLev) (hx:x.vs.el.length≤1000000000) (n:Nat) (h:Hps) (hg:Gd n h):callFn (LX (cF Try.prog)) n h [(D.agg [.int .i64 (x.n),slD 2 encV (x.vs)])] (cF Try.prog 64) = .ok (encT (sortT x)) n h:=by
  have hgn:=hg n (Nat.le_refl _)
  have hG:∀ m,n≤m→Gd m h:=fun m hm=>hg.mono hm
  have c1:∀ m h,Gd m h→callFn (LX (cF Try.prog)) m h [.sl 2 [(D.agg [.int .i64 (x.n),slD 2 encV (x.vs)])] [] true] (cF Try.prog 73) = .ok (slD 2 encL (Sl.app [cloneL x])) m h:=fun m h hg=>pRawLevels m h hg ⟨false,true,[x],[]⟩ (by simp) (fun y hy=>by simp at hy; subst hy; exact hx)
  have e:encT (sortT x) = .agg [.int .i64 2,.int .i64 0,.bool false,.str [],slD 2 encL (Sl.app [cloneL x]),.nils]:=by rw [encT_eq]; rfl
  rw [e]
  rw [f64_eq]; unfold c64; rw [callFn_eq (by rfl)]
  simp (disch:=first|assumption|omega|(simp (disch:=first|assumption|omega) only [sB,reduceAdd,reduceLT,reduceLeDiff,reduceEqDiff,reduceMul,↓reduceIte,hG,gd_zt,gd_lev];done)|fail) only [sA,↓reduceIte,reduceLT,reduceEqDiff,reduceAdd,reduceLeDiff,c1,hG,gd_zt,gd_lev]
theorem pOwn (n:Nat) (h:Hps) (hg:Gd n h):callFn (LX (cF Try.prog)) n h [.int .i64 0] (cF Try.prog 49) = .ok .nils n h:=by
  have hgn:=hg n (Nat.le_refl _)
  rw [f49_eq]; unfold c49; rw [callFn_eq (by rfl)]
  simp (disch:=first|assumption|omega|(simp (disch:=first|assumption|omega) only [sB,reduceAdd,reduceLT,reduceLeDiff,reduceEqDiff,reduceMul,↓reduceIte];done)|fail) only [sA,↓reduceIte,reduceLT,reduceEqDiff,reduceAdd,reduceLeDiff]
  rw [LX_loop]
  unfold l49_0
  simp (disch:=first|assumption|omega|(simp (disch:=first|assumption|omega) only [sB,reduceAdd,reduceLT,reduceLeDiff,reduceEqDiff,reduceMul,↓reduceIte];done)|fail) only [sA,↓reduceIte,reduceLT,reduceEqDiff,reduceAdd,reduceLeDiff]
def varsT (k:Nat) (out:Int):List Tm := (List.range k).map fun (i:Nat)=>varT (out+k - 1 - i)
theorem varsT_len (k:Nat) (out:Int) : (varsT k out).length=k:=by simp [varsT]
theorem varsT_take {k i:Nat} {out:Int} (hi:i < k) : (varsT k out).take (i+1) = (varsT k out).take i++[varT (out+k - 1 - i)]:=by
  rw [← List.take_append_getElem (by rw [varsT_len]; exact hi)]
  congr 2
  simp [varsT]
set_option maxHeartbeats 4000000 in
theorem pVars (k:Nat) (out:Int) (hk:k≤1000000) (ho:0≤out∧out≤1000000) (n:Nat) (h:Hps) (hg:Gd n h):callFn (LX (cF Try.prog)) n h [.int .i64 (k:Nat),.int .i64 out] (cF Try.prog 33) = .ok (slD 6 encT (Sl.app (varsT k out))) n h:=by
  have hgn:=hg n (Nat.le_refl _)
  rw [f33_eq]; unfold c33; rw [callFn_eq (by rfl)]
  simp (disch:=first|assumption|omega|(simp (disch:=first|assumption|omega) only [sB,reduceAdd,reduceLT,reduceLeDiff,reduceEqDiff,reduceMul,↓reduceIte];done)|fail) only [sA,↓reduceIte,reduceLT,reduceEqDiff,reduceAdd,reduceLeDiff]
  generalize hr:LX (cF Try.prog) (.loop l33_0) _ _ _=r
  obtain ⟨x,e2,n2,h2,rfl,rfl,H2,d,B,q5⟩:=loop_up hr k
    (fun i e n' h'=>Hp n h n' h' ∧ (∃ d,Bld 6 encT n ((varsT k out).take i) h' d∧get (po 5) e=d)∧get (po 0) e = .int .i64 (k:Nat)∧get (po 1) e = .int .i64 out∧get (po 7) e = .int .i64 (k:Nat)∧get (po 8) e = .int .i64 (i:Nat))
    (fun x e n' h'=>x = .exit 0∧Hp n h n' h'∧∃ d,Bld 6 encT n (varsT k out) h' d∧get (po 5) e=d)
    (by
      rintro e n' h' ⟨H,⟨d,B,g5⟩,g0,g1,g7,g8⟩
      rw [List.take_of_length_le (by rw [varsT_len]; omega)] at B
      unfold l33_0
      simp (disch:=first|assumption|omega|(simp (disch:=first|assumption|omega) only [sB,reduceAdd,reduceLT,reduceLeDiff,reduceEqDiff,reduceMul,↓reduceIte];done)|fail) only [sA,↓reduceIte,reduceLT,reduceEqDiff,reduceAdd,reduceLeDiff,g5,g7,g8]
      exact ⟨_,_,_,_,rfl,by simp,rfl,H.mono (by omega),d,B,by simp +decide only [sG,g5]⟩)
    (by
      rintro i e n' h' hi ⟨H,⟨d,B,g5⟩,g0,g1,g7,g8⟩
      have hG:∀ m,n'≤m→Gd m h':=fun m hm=>H.good' hm
      have c1:∀ m h,Gd m h→callFn (LX (cF Try.prog)) m h [.int .i64 (out+k - 1 - i)] (cF Try.prog 35) = .ok (.agg [.int .i64 1,.int .i64 (out+k - 1 - i),.bool false,.str [],.nils,.nils]) m h:=fun m h hg=>pVar m h hg _
      have hbo:=B.okD
      obtain ⟨D',H',A⟩:=app_bldx (b:=88) B H (Nat.le_refl _) H.le (fun m x=>low_flat (flatT x)) [varT (out+k - 1 - i)] (by have:=varsT_len k out; simp; omega)
      have A1:=fun m hm => (A m hm).1
      simp only [List.map_cons,List.map_nil,enc_var] at A1
      unfold l33_0
      simp (disch:=first|assumption|omega|(simp (disch:=first|assumption|omega) only [sB,reduceAdd,reduceLT,reduceLeDiff,reduceEqDiff,reduceMul,↓reduceIte,hG];done)|fail) only [sA,↓reduceIte,reduceLT,reduceEqDiff,reduceAdd,reduceLeDiff,g5,g0,g1,g7,g8,c1,hbo,A1,hG]
      exact ⟨_,_,_,_,rfl,.inl ⟨rfl,((A _ (by omega)).2.2.1).mono (by omega),⟨_,by rw [varsT_take hi]; exact (A _ (by omega)).2.1,by simp +decide only [sG]⟩,by simp +decide only [sG,g0],by simp +decide only [sG,g1],by simp +decide only [sG,g7],by simp +decide only [sG]⟩⟩)
    ⟨(Hp.start hg).mono (by omega),⟨.nils,.inl ⟨by simp,rfl⟩,by simp +decide only [sG]⟩,by simp +decide only [sG],by simp +decide only [sG],by simp +decide only [sG],by simp (disch:=first|assumption|omega|(simp (disch:=first|assumption|omega) only [sB,reduceAdd,reduceLT,reduceLeDiff,reduceEqDiff,reduceMul,↓reduceIte];done)|fail) only [sA,↓reduceIte,reduceLT,reduceEqDiff,reduceAdd,reduceLeDiff]⟩
  simp (disch:=first|assumption|omega|(simp (disch:=first|assumption|omega) only [sB,reduceAdd,reduceLT,reduceLeDiff,reduceEqDiff,reduceMul,↓reduceIte];done)|fail) only [sA,↓reduceIte,reduceLT,reduceEqDiff,reduceAdd,reduceLeDiff,q5,finish_bld elemT B (H2.mono (show n2≤n2+2 by omega))]
def pisT (l:List Tm) (t:Tm):Tm:=l.foldr (two 3) t
set_option maxHeartbeats 4000000 in
theorem pPis (t:Tm) {d:D} {l:List Tm} {ad:Nat→D} (hl:l.length≤1000000000) (n:Nat) (h:Hps) (hg:Gd n h) (S:Sv 6 encT n h d l ad):callFn (LX (cF Try.prog)) n h [d,(D.agg [.int .i64 (t).form,.int .i64 (t).n,.bool (t).hid,.str (t).name,slD 2 encL (t).levels,slD 6 encT (t).kids])] (cF Try.prog 36) = .ok (encT (pisT l t)) n h:=by
  have hgn:=hg n (Nat.le_refl _)
  have H0:Hp n h (n+2) ((n+1,(Ob.row 6 [.agg [.int .i64 0,.int .i64 0,.bool false,.str [],.nils,.nils]])) :: (n,(Ob.row 6 [.agg [.int .i64 (t).form,.int .i64 (t).n,.bool (t).hid,.str (t).name,slD 2 encL (t).levels,slD 6 encT (t).kids]]))::h) := ((Hp.start hg).box (r:=n) (m:=n+1) (Nat.le_refl _) (by omega) (flatTA t)).box (r:=n+1) (m:=n+2) (k:=6) (d := (D.agg [.int .i64 0,.int .i64 0,.bool false,.str [],.nils,.nils])) (by omega) (by omega) rfl
  have s1:=S.len
  rw [f36_eq]; unfold c36; rw [callFn_eq (by rfl)]
  simp (disch:=first|assumption|omega|(simp (disch:=first|assumption|omega) only [sB,reduceAdd,reduceLT,reduceLeDiff,reduceEqDiff,reduceMul,↓reduceIte];done)|fail) only [sA,↓reduceIte,reduceLT,reduceEqDiff,reduceAdd,reduceLeDiff,s1]
  generalize hr:LX (cF Try.prog) (.loop l36_0) _ _ _=r
  obtain ⟨x,e2,n2,h2,rfl,rfl,H2,p2,z0,z1,q3,q4⟩:=loop_up hr l.length
    (fun i e n' h'=>Hp n h n' h'∧n+2≤n'∧getO h' n = (Ob.row 6 [.agg [.int .i64 (pisT (l.drop (l.length - i)) t).form,.int .i64 (pisT (l.drop (l.length - i)) t).n,.bool (pisT (l.drop (l.length - i)) t).hid,.str (pisT (l.drop (l.length - i)) t).name,slD 2 encL (pisT (l.drop (l.length - i)) t).levels,slD 6 encT (pisT (l.drop (l.length - i)) t).kids]])∧getO h' (n+1) = (Ob.row 6 [.agg [.int .i64 0,.int .i64 0,.bool false,.str [],.nils,.nils]])∧get (po 0) e=d∧get (po 3) e = .ptr n 0 0∧get (po 4) e = .ptr (n+1) 0 0∧get (po 5) e = .int .i64 ((l.length:Int) - 1 - i))
    (fun x e n' h'=>x = .exit 0∧Hp n h n' h'∧n+2≤n'∧getO h' n = (Ob.row 6 [.agg [.int .i64 (pisT l t).form,.int .i64 (pisT l t).n,.bool (pisT l t).hid,.str (pisT l t).name,slD 2 encL (pisT l t).levels,slD 6 encT (pisT l t).kids]])∧getO h' (n+1) = (Ob.row 6 [.agg [.int .i64 0,.int .i64 0,.bool false,.str [],.nils,.nils]])∧get (po 3) e = .ptr n 0 0∧get (po 4) e = .ptr (n+1) 0 0)
    (by
      rintro e n' h' ⟨H,p1,z0,z1,g0,g3,g4,g5⟩
      rw [Nat.sub_self,List.drop_zero] at z0
      unfold l36_0
      have y:¬ (l.length:Int) - 1 - l.length ≥ 0:=by omega
      simp (disch:=first|assumption|omega|(simp (disch:=first|assumption|omega) only [sB,reduceAdd,reduceLT,reduceLeDiff,reduceEqDiff,reduceMul,↓reduceIte];done)|fail) only [sA,↓reduceIte,reduceLT,reduceEqDiff,reduceAdd,reduceLeDiff,g0,g3,g4,g5,y]
      exact ⟨_,_,_,_,rfl,by simp,rfl,H.mono (by omega),by omega,z0,z1,by simp +decide only [sG,g3],by simp +decide only [sG,g4]⟩)
    (by
      rintro i e n' h' hi ⟨H,p1,z0,z1,g0,g3,g4,g5⟩
      have hle:=H.le
      obtain ⟨j,hj⟩:∃ j,j+1+i=l.length:=⟨l.length - 1 - i,by omega⟩
      have hjl:j < l.length:=by omega
      have e1 : (l.length:Int) - 1 - i = (j:Int):=by omega
      rw [e1] at g5
      have s2:=fun m g=>S.idx m g j hjl
      have s3:=fun m=>S.at H m j hjl
      rw [encT_eq] at s3
      rw [show l.length - i=j+1 by omega] at z0
      rw [show l.length - (i+1)=j by omega,show (l.length:Int) - 1 - (i+1:Nat) = (j:Int) - 1 by omega,List.drop_eq_getElem_cons hjl]
      generalize hX:pisT (l.drop (j+1)) t=X at z0
      have hX2:pisT (l[j]::l.drop (j+1)) t=two 3 l[j] X:=by rw [← hX]; rfl
      rw [hX2]
      have y : (j:Int) ≥ 0:=by omega
      have c1:∀ m h,Gd m h→callFn (LX (cF Try.prog)) m h [.int .i64 3,.bool false,(D.agg [.int .i64 (l[j]).form,.int .i64 (l[j]).n,.bool (l[j]).hid,.str (l[j]).name,slD 2 encL (l[j]).levels,slD 6 encT (l[j]).kids]),(D.agg [.int .i64 (X).form,.int .i64 (X).n,.bool (X).hid,.str (X).name,slD 2 encL (X).levels,slD 6 encT (X).kids])] (cF Try.prog 38) = .ok (encT (two 3 l[j] X)) m h:=fun m h hg=>pBind 3 l[j] X m h hg
      rw [encT_eq (two 3 l[j] X)] at c1
      unfold l36_0
      have hG:∀ m,n'≤m→Gd m h':=fun m hm=>H.good' hm
      simp (disch:=first|assumption|omega|(simp (disch:=first|assumption|omega) only [sB,reduceAdd,reduceLT,reduceLeDiff,reduceEqDiff,reduceMul,↓reduceIte,hG];done)|fail) only [sA,↓reduceIte,reduceLT,reduceEqDiff,reduceAdd,reduceLeDiff,g0,g3,g4,g5,y,s2,s3,z0,z1,c1,hG]
      exact ⟨_,_,_,_,rfl,.inl ⟨rfl,(H.set (r:=n) (by omega) (fun k hk=>lowO_one (low_flat (flatTA _)))).mono (by omega),by omega,by rw [getO_set1 z0],by rw [getO_set2 z0 z1 (by omega)],by simp +decide only [sG,g0],by simp +decide only [sG,g3],by simp +decide only [sG,g4],by simp +decide only [sG]⟩⟩)
    ⟨H0.mono (by omega),by omega,by rw [getO_tl (by omega),getO_hd,Nat.sub_zero,List.drop_length]; rfl,getO_hd,by simp +decide only [sG],by simp +decide only [sG],by simp +decide only [sG],by simp +decide only [sG]; simp⟩
  have w:∀ X,getO (setO h2 (n+1) X) (n+1)=X:=fun X=>getO_setO_same (by rw [z1]; simp)
  rw [encT_eq]
  simp (disch:=first|assumption|omega|(simp (disch:=first|assumption|omega) only [sB,reduceAdd,reduceLT,reduceLeDiff,reduceEqDiff,reduceMul,↓reduceIte];done)|fail) only [sA,↓reduceIte,reduceLT,reduceEqDiff,reduceAdd,reduceLeDiff,q3,q4,z0,z1,w]
  exact finish_flat (flatTA _) ((H2.set (r:=n+1) (by omega) (fun k hk=>lowO_one (low_flat (flatTA _)))).mono (by omega))
end Go.Proofs.Ytpbpmpabndgeeaa
set_option linter.unusedSimpArgs false
set_option linter.unusedVariables false
namespace Go.Proofs.Ytpbpmpabndgeeaa
open Go
open Nat (reduceAdd reduceLT reduceLeDiff reduceEqDiff reduceMul)

theorem encA (x:Tm):∃ cs,encT x = .agg cs∧cs.length=6:=⟨_,encT_eq x,rfl⟩
def Sm (t:Tm):Prop:=slimT t.abs=true∧sizeT t.abs≤100000∧highT t.abs≤100000
def copyT (t:Tm):Tm := (runM gC t 0 1099511627776).1
theorem pCopy' (n:Nat) (h:Hps) (hg:Gd n h) (t:Tm) (ht:Sm t):callFn (LX (cF Try.prog)) n h [(D.agg [.int .i64 (t).form,.int .i64 (t).n,.bool (t).hid,.str (t).name,slD 2 encL (t).levels,slD 6 encT (t).kids])] (cF Try.prog 41) = .ok (encT (copyT t)) n h:=pCopy n h hg t ht.1 ht.2.1 ht.2.2
def liftT (a b:Int) (t:Tm):Tm:=if a=0∧b=0 then t else (runM (gL a b) t 0 1099511627776).1
theorem pLift' (n:Nat) (h:Hps) (hg:Gd n h) (t:Tm) (a b:Int) (ha:0≤a∧a≤10000000) (hb:0≤b∧b≤10000000) (ht:Sm t):callFn (LX (cF Try.prog)) n h [(D.agg [.int .i64 (t).form,.int .i64 (t).n,.bool (t).hid,.str (t).name,slD 2 encL (t).levels,slD 6 encT (t).kids]),.int .i64 a,.int .i64 b] (cF Try.prog 31) = .ok (encT (liftT a b t)) n h:=by
  unfold liftT
  by_cases z:a=0∧b=0
  · rw [if_pos z]
    obtain ⟨rfl,rfl⟩:=z
    have hgn:=hg n (Nat.le_refl _)
    rw [encT_eq]
    rw [f31_eq]; unfold c31; rw [callFn_eq (by rfl)]
    simp (disch:=first|assumption|omega|(simp (disch:=first|assumption|omega) only [sB,reduceAdd,reduceLT,reduceLeDiff,reduceEqDiff,reduceMul,↓reduceIte];done)|fail) only [sA,↓reduceIte,reduceLT,reduceEqDiff,reduceAdd,reduceLeDiff]
  · rw [if_neg z]
    exact pLift n h hg t a b ha hb (by omega) ht.1 ht.2.1 ht.2.2
theorem map_take1 {α β:Type} {f:α→β} {l:List α} {i:Nat} (hi:i < l.length) : (l.map f).take (i+1) = (l.map f).take i++[f l[i]]:=by
  rw [← List.take_append_getElem (by rw [List.length_map]; exact hi)]
  congr 2
  simp
theorem mapIdx_take1 {α β:Type} {f:Nat→α→β} {l:List α} {i:Nat} (hi:i < l.length) : (l.mapIdx f).take (i+1) = (l.mapIdx f).take i++[f i l[i]]:=by
  rw [← List.take_append_getElem (by rw [List.length_mapIdx]; exact hi)]
  congr 2
  simp
set_option maxHeartbeats 4000000 in
theorem pCopies {d:D} {l:List Tm} {ad:Nat→D} (hl:l.length≤1000000000) (hs:∀ x,x∈l→Sm x) (n:Nat) (h:Hps) (hg:Gd n h) (S:Sv 6 encT n h d l ad):callFn (LX (cF Try.prog)) n h [d] (cF Try.prog 25) = .ok (slD 6 encT (Sl.app (l.map copyT))) n h:=by
  have hgn:=hg n (Nat.le_refl _)
  have s1:=S.len
  rw [f25_eq]; unfold c25; rw [callFn_eq (by rfl)]
  simp (disch:=first|assumption|omega|(simp (disch:=first|assumption|omega) only [sB,reduceAdd,reduceLT,reduceLeDiff,reduceEqDiff,reduceMul,↓reduceIte];done)|fail) only [sA,↓reduceIte,reduceLT,reduceEqDiff,reduceAdd,reduceLeDiff,s1]
  generalize hr:LX (cF Try.prog) (.loop l25_0) _ _ _=r
  obtain ⟨x,e2,n2,h2,rfl,rfl,H2,d2,B,q3⟩:=loop_up hr l.length
    (fun i e n' h'=>Hp n h n' h' ∧ (∃ d,Bld 6 encT n ((l.map copyT).take i) h' d∧get (po 3) e=d)∧get (po 6) e=d∧get (po 7) e = .int .i64 (l.length:Nat)∧get (po 8) e = .int .i64 (i:Nat))
    (fun x e n' h'=>x = .exit 0∧Hp n h n' h'∧∃ d,Bld 6 encT n (l.map copyT) h' d∧get (po 3) e=d)
    (by
      rintro e n' h' ⟨H,⟨d2,B,g3⟩,g6,g7,g8⟩
      rw [List.take_of_length_le (by rw [List.length_map]; omega)] at B
      unfold l25_0
      simp (disch:=first|assumption|omega|(simp (disch:=first|assumption|omega) only [sB,reduceAdd,reduceLT,reduceLeDiff,reduceEqDiff,reduceMul,↓reduceIte];done)|fail) only [sA,↓reduceIte,reduceLT,reduceEqDiff,reduceAdd,reduceLeDiff,g3,g7,g8]
      exact ⟨_,_,_,_,rfl,by simp,rfl,H.mono (by omega),d2,B,by simp +decide only [sG,g3]⟩)
    (by
      rintro i e n' h' hi ⟨H,⟨d2,B,g3⟩,g6,g7,g8⟩
      have s2:=fun m g=>S.idx m g i hi
      have s3:=fun m=>S.at H m i hi
      rw [encT_eq] at s3
      have H1:Hp n h (n'+4) ((n'+3,(Ob.row 6 [.agg [.int .i64 (l[i]).form,.int .i64 (l[i]).n,.bool (l[i]).hid,.str (l[i]).name,slD 2 encL (l[i]).levels,slD 6 encT (l[i]).kids]]))::h'):=H.box (r:=n'+3) (m:=n'+4) (by omega) (by omega) (flatTA l[i])
      have B1:Bld 6 encT n ((l.map copyT).take i) ((n'+3,(Ob.row 6 [.agg [.int .i64 (l[i]).form,.int .i64 (l[i]).n,.bool (l[i]).hid,.str (l[i]).name,slD 2 encL (l[i]).levels,slD 6 encT (l[i]).kids]]))::h') d2:=B.cons (H.good n' (Nat.le_refl _)) (by omega)
      have hG:∀ m,n'≤m→Gd m h':=fun m hm=>H.good' hm
      have c1:∀ m h,Gd m h→callFn (LX (cF Try.prog)) m h [(D.agg [.int .i64 (l[i]).form,.int .i64 (l[i]).n,.bool (l[i]).hid,.str (l[i]).name,slD 2 encL (l[i]).levels,slD 6 encT (l[i]).kids])] (cF Try.prog 41) = .ok (encT (copyT l[i])) m h:=fun m h hg=>pCopy' m h hg _ (hs _ (List.getElem_mem hi))
      have hbo:=B.okD
      generalize hX:copyT l[i]=X at c1
      rw [encT_eq] at c1
      obtain ⟨D',H',A⟩:=app_bldx (b:=88) B1 H1 (Nat.le_refl _) H1.le (fun m x=>low_flat (flatT x)) [X] (by simp; omega)
      have A1:=fun m hm => (A m hm).1
      simp only [List.map_cons,List.map_nil,encT_eq X] at A1
      unfold l25_0
      simp (disch:=first|assumption|omega|(simp (disch:=first|assumption|omega) only [sB,reduceAdd,reduceLT,reduceLeDiff,reduceEqDiff,reduceMul,↓reduceIte,hG,gd_tm];done)|fail) only [sA,↓reduceIte,reduceLT,reduceEqDiff,reduceAdd,reduceLeDiff,g3,g6,g7,g8,s2,s3,c1,hbo,A1,hG,gd_tm]
      exact ⟨_,_,_,_,rfl,.inl ⟨rfl,((A _ (by omega)).2.2.1).mono (by omega),⟨_,by rw [map_take1 hi,hX]; exact (A _ (by omega)).2.1,by simp +decide only [sG]⟩,by simp +decide only [sG,g6],by simp +decide only [sG,g7],by simp +decide only [sG]⟩⟩)
    ⟨(Hp.start hg).mono (by omega),⟨.nils,.inl ⟨by simp,rfl⟩,by simp +decide only [sG]⟩,by simp +decide only [sG],by simp +decide only [sG],by simp (disch:=first|assumption|omega|(simp (disch:=first|assumption|omega) only [sB,reduceAdd,reduceLT,reduceLeDiff,reduceEqDiff,reduceMul,↓reduceIte];done)|fail) only [sA,↓reduceIte,reduceLT,reduceEqDiff,reduceAdd,reduceLeDiff]⟩
  simp (disch:=first|assumption|omega|(simp (disch:=first|assumption|omega) only [sB,reduceAdd,reduceLT,reduceLeDiff,reduceEqDiff,reduceMul,↓reduceIte];done)|fail) only [sA,↓reduceIte,reduceLT,reduceEqDiff,reduceAdd,reduceLeDiff,q3,finish_bld elemT B (H2.mono (show n2≤n2+2 by omega))]
def liftedT (l:List Tm) (b:Int):List Tm:=l.mapIdx fun i t=>liftT (i:Nat) b t
set_option maxHeartbeats 4000000 in
theorem pLifted {d:D} {l:List Tm} {ad:Nat→D} (b:Int) (hb:0≤b∧b≤10000000) (hl:l.length≤1000000) (hs:∀ x,x∈l→Sm x) (n:Nat) (h:Hps) (hg:Gd n h) (S:Sv 6 encT n h d l ad):callFn (LX (cF Try.prog)) n h [d,.int .i64 b] (cF Try.prog 37) = .ok (slD 6 encT (Sl.app (liftedT l b))) n h:=by
  have hgn:=hg n (Nat.le_refl _)
  have s1:=S.len
  rw [f37_eq]; unfold c37; rw [callFn_eq (by rfl)]
  simp (disch:=first|assumption|omega|(simp (disch:=first|assumption|omega) only [sB,reduceAdd,reduceLT,reduceLeDiff,reduceEqDiff,reduceMul,↓reduceIte];done)|fail) only [sA,↓reduceIte,reduceLT,reduceEqDiff,reduceAdd,reduceLeDiff,s1]
  generalize hr:LX (cF Try.prog) (.loop l37_0) _ _ _=r
  obtain ⟨x,e2,n2,h2,rfl,rfl,H2,d2,B,q3⟩:=loop_up hr l.length
    (fun i e n' h'=>Hp n h n' h' ∧ (∃ d,Bld 6 encT n ((liftedT l b).take i) h' d∧get (po 5) e=d)∧get (po 1) e = .int .i64 b∧get (po 8) e=d∧get (po 9) e = .int .i64 (l.length:Nat)∧get (po 10) e = .int .i64 (i:Nat))
    (fun x e n' h'=>x = .exit 0∧Hp n h n' h'∧∃ d,Bld 6 encT n (liftedT l b) h' d∧get (po 5) e=d)
    (by
      rintro e n' h' ⟨H,⟨d2,B,g3⟩,g1,g6,g7,g8⟩
      rw [List.take_of_length_le (by unfold liftedT; rw [List.length_mapIdx]; omega)] at B
      unfold l37_0
      simp (disch:=first|assumption|omega|(simp (disch:=first|assumption|omega) only [sB,reduceAdd,reduceLT,reduceLeDiff,reduceEqDiff,reduceMul,↓reduceIte];done)|fail) only [sA,↓reduceIte,reduceLT,reduceEqDiff,reduceAdd,reduceLeDiff,g3,g7,g8]
      exact ⟨_,_,_,_,rfl,by simp,rfl,H.mono (by omega),d2,B,by simp +decide only [sG,g3]⟩)
    (by
      rintro i e n' h' hi ⟨H,⟨d2,B,g3⟩,g1,g6,g7,g8⟩
      have s2:=fun m g=>S.idx m g i hi
      have s3:=fun m=>S.at H m i hi
      rw [encT_eq] at s3
      have H1:Hp n h (n'+5) ((n'+4,(Ob.row 6 [.agg [.int .i64 (l[i]).form,.int .i64 (l[i]).n,.bool (l[i]).hid,.str (l[i]).name,slD 2 encL (l[i]).levels,slD 6 encT (l[i]).kids]]))::h'):=H.box (r:=n'+4) (m:=n'+5) (by omega) (by omega) (flatTA l[i])
      have B1:Bld 6 encT n ((liftedT l b).take i) ((n'+4,(Ob.row 6 [.agg [.int .i64 (l[i]).form,.int .i64 (l[i]).n,.bool (l[i]).hid,.str (l[i]).name,slD 2 encL (l[i]).levels,slD 6 encT (l[i]).kids]]))::h') d2:=B.cons (H.good n' (Nat.le_refl _)) (by omega)
      have hG:∀ m,n'≤m→Gd m h':=fun m hm=>H.good' hm
      have c1:∀ m h,Gd m h→callFn (LX (cF Try.prog)) m h [(D.agg [.int .i64 (l[i]).form,.int .i64 (l[i]).n,.bool (l[i]).hid,.str (l[i]).name,slD 2 encL (l[i]).levels,slD 6 encT (l[i]).kids]),.int .i64 (i:Nat),.int .i64 b] (cF Try.prog 31) = .ok (encT (liftT (i:Nat) b l[i])) m h:=fun m h hg=>pLift' m h hg _ _ _ (by omega) hb (hs _ (List.getElem_mem hi))
      have hbo:=B.okD
      have hT : (liftedT l b).take (i+1) = (liftedT l b).take i++[liftT (i:Nat) b l[i]]:=mapIdx_take1 hi
      have hT2 : ((liftedT l b).take i).length≤l.length:=by unfold liftedT; rw [List.length_take,List.length_mapIdx]; omega
      generalize hX:liftT (i:Nat) b l[i]=X at c1 hT
      rw [encT_eq] at c1
      obtain ⟨D',H',A⟩:=app_bldx (b:=88) B1 H1 (Nat.le_refl _) H1.le (fun m x=>low_flat (flatT x)) [X] (by simp at hT2 ⊢; omega)
      have A1:=fun m hm => (A m hm).1
      simp only [List.map_cons,List.map_nil,encT_eq X] at A1
      unfold l37_0
      simp (disch:=first|assumption|omega|(simp (disch:=first|assumption|omega) only [sB,reduceAdd,reduceLT,reduceLeDiff,reduceEqDiff,reduceMul,↓reduceIte,hG,gd_tm];done)|fail) only [sA,↓reduceIte,reduceLT,reduceEqDiff,reduceAdd,reduceLeDiff,g3,g1,g6,g7,g8,s2,s3,c1,hbo,A1,hG,gd_tm]
      exact ⟨_,_,_,_,rfl,.inl ⟨rfl,((A _ (by omega)).2.2.1).mono (by omega),⟨_,by rw [hT]; exact (A _ (by omega)).2.1,by simp +decide only [sG]⟩,by simp +decide only [sG,g1],by simp +decide only [sG,g6],by simp +decide only [sG,g7],by simp +decide only [sG]⟩⟩)
    ⟨(Hp.start hg).mono (by omega),⟨.nils,.inl ⟨by simp,rfl⟩,by simp +decide only [sG]⟩,by simp +decide only [sG],by simp +decide only [sG],by simp +decide only [sG],by simp (disch:=first|assumption|omega|(simp (disch:=first|assumption|omega) only [sB,reduceAdd,reduceLT,reduceLeDiff,reduceEqDiff,reduceMul,↓reduceIte];done)|fail) only [sA,↓reduceIte,reduceLT,reduceEqDiff,reduceAdd,reduceLeDiff]⟩
  simp (disch:=first|assumption|omega|(simp (disch:=first|assumption|omega) only [sB,reduceAdd,reduceLT,reduceLeDiff,reduceEqDiff,reduceMul,↓reduceIte];done)|fail) only [sA,↓reduceIte,reduceLT,reduceEqDiff,reduceAdd,reduceLeDiff,q3,finish_bld elemT B (H2.mono (show n2≤n2+2 by omega))]
def strp:Tm→List Tm×Tm
  | .mk f n hd nm ls nl fl (k0::k1::ks) sp=>if f=3 then (k0 :: (strp k1).1,(strp k1).2) else ([],.mk f n hd nm ls nl fl (k0::k1::ks) sp)
  | t => ([],t)
theorem strp_pi {t k0 k1:Tm} (hf:t.form=3) (hk:t.kids.el=[k0,k1]):strp t = (k0 :: (strp k1).1,(strp k1).2):=by
  cases t with
  | mk f n hd nm ls nl fl ks sp =>
    have hk':ks=[k0,k1]:=hk
    have hf':f=3:=hf
    subst hk' hf'
    rw [strp,if_pos rfl]
theorem strp_end {t:Tm} (hf:t.form≠3):strp t = ([],t):=by
  cases t with
  | mk f n hd nm ls nl fl ks sp =>
    have hf':f≠3:=hf
    match ks with
    | []=>simp [strp]
    | [k]=>simp [strp]
    | k0::k1::ks=>rw [strp,if_neg hf']
theorem kids_two3 {t:Tm} (hf:t.form=3) (hg:formedT t.abs=true):∃ k0 k1,t.kids.el=[k0,k1]∧formedT k1.abs=true∧sizeT k1.abs+1 < sizeT t.abs+0:=by
  rw [formed_tm,Bool.and_eq_true,List.all_eq_true] at hg
  have h1:=hg.1
  rw [part_tm,Bool.and_eq_true,decide_eq_true_iff,hf] at h1
  have hk:t.kids.el.length=2:=by
    have:=h1.1
    rw [show kidsN 3=2 from rfl] at this
    omega
  match e:t.kids.el,hk with
  | [k0,k1],_ =>
    refine ⟨k0,k1,rfl,hg.2 k1 (by rw [e]; simp),?_⟩
    have:=size_abs t
    rw [e,List.map_cons,List.map_cons,List.map_nil,sizeTs_cons,sizeTs_cons,sizeTs_nil] at this
    have:=sizeT_pos k0.abs
    omega
set_option maxHeartbeats 8000000 in
theorem pStrip (t:Tm) (ht:formedT t.abs=true) (hs:sizeT t.abs≤100000) (n:Nat) (h:Hps) (hg:Gd n h):callFn (LX (cF Try.prog)) n h [(D.agg [.int .i64 (t).form,.int .i64 (t).n,.bool (t).hid,.str (t).name,slD 2 encL (t).levels,slD 6 encT (t).kids])] (cF Try.prog 42) = .ok (.tup [slD 6 encT (Sl.app (strp t).1),encT (strp t).2]) n h:=by
  have hgn:=hg n (Nat.le_refl _)
  have H0:Hp n h (n+3) ((n+2,(Ob.row 6 [.agg [.int .i64 0,.int .i64 0,.bool false,.str [],.nils,.nils]])) :: (n,(Ob.row 6 [.agg [.int .i64 (t).form,.int .i64 (t).n,.bool (t).hid,.str (t).name,slD 2 encL (t).levels,slD 6 encT (t).kids]]))::h) := ((Hp.start hg).box (r:=n) (m:=n+1) (Nat.le_refl _) (by omega) (flatTA t)).box (r:=n+2) (m:=n+3) (k:=6) (d := (D.agg [.int .i64 0,.int .i64 0,.bool false,.str [],.nils,.nils])) (by omega) (by omega) rfl
  rw [f42_eq]; unfold c42; rw [callFn_eq (by rfl)]
  simp (disch:=first|assumption|omega|(simp (disch:=first|assumption|omega) only [sB,reduceAdd,reduceLT,reduceLeDiff,reduceEqDiff,reduceMul,↓reduceIte];done)|fail) only [sA,↓reduceIte,reduceLT,reduceEqDiff,reduceAdd,reduceLeDiff]
  generalize hr:LX (cF Try.prog) (.loop l42_0) _ _ _=R
  obtain ⟨x,ez,nz,G,rfl,rfl,Hz,p1,hd,A,dA,BA,z0,z1,hsp,hAl,q1,q3,q4⟩:=loop_at hr
    (fun j e n' G=>Hp n h n' G∧n+3≤n'∧∃ (cur:Tm) (A:List Tm) (dA:D),sizeT cur.abs=j∧formedT cur.abs=true∧Bld 6 encT (n+3) A G dA∧getO G n = (Ob.row 6 [.agg [.int .i64 (cur).form,.int .i64 (cur).n,.bool (cur).hid,.str (cur).name,slD 2 encL (cur).levels,slD 6 encT (cur).kids]])∧getO G (n+2) = (Ob.row 6 [.agg [.int .i64 0,.int .i64 0,.bool false,.str [],.nils,.nils]]) ∧
      strp t = (A ++ (strp cur).1,(strp cur).2)∧A.length+j≤sizeT t.abs∧get (po 1) e = .ptr n 0 0∧get (po 3) e = .ptr (n+2) 0 0∧get (po 4) e=dA)
    (fun x e n' G=>x = .exit 0∧Hp n h n' G∧n+3≤n'∧∃ (hd:Tm) (A:List Tm) (dA:D),Bld 6 encT (n+3) A G dA∧getO G n = (Ob.row 6 [.agg [.int .i64 (hd).form,.int .i64 (hd).n,.bool (hd).hid,.str (hd).name,slD 2 encL (hd).levels,slD 6 encT (hd).kids]])∧getO G (n+2) = (Ob.row 6 [.agg [.int .i64 0,.int .i64 0,.bool false,.str [],.nils,.nils]]) ∧
      strp t = (A,hd)∧A.length≤100000∧get (po 1) e = .ptr n 0 0∧get (po 3) e = .ptr (n+2) 0 0∧get (po 4) e=dA)
    (by
      rintro j e n' G ⟨H,p1,cur,A,dA,hj,hcf,BA,z0,z1,hsp,hAl,q1,q3,q4⟩
      unfold l42_0
      by_cases hf:cur.form=3
      · obtain ⟨k0,k1,hk,hk0,hsz⟩:=kids_two3 hf hcf
        obtain ⟨D1,K1,A1⟩:=app_bldz (b:=88) BA H (by omega) p1 (fun m x=>low_flat (flatT x)) [k0] (by simp; omega)
        have a1:=fun m hm => (A1 m hm).1
        simp only [List.map_cons,List.map_nil,encT_eq k0] at a1
        have i0:0 < cur.kids.el.length:=by rw [hk]; simp
        have i1:1 < cur.kids.el.length:=by rw [hk]; simp
        have e0:∀ hh,encT (cur.kids.el[0]'hh) = (D.agg [.int .i64 (k0).form,.int .i64 (k0).n,.bool (k0).hid,.str (k0).name,slD 2 encL (k0).levels,slD 6 encT (k0).kids]):=fun hh=>by simp only [hk]; exact encT_eq _
        have e1:∀ hh,encT (cur.kids.el[1]'hh) = (D.agg [.int .i64 (k1).form,.int .i64 (k1).n,.bool (k1).hid,.str (k1).name,slD 2 encL (k1).levels,slD 6 encT (k1).kids]):=fun hh=>by simp only [hk]; exact encT_eq _
        have hbA:=BA.okD
        rw [hf] at z0
        have hmA:∀ q,(q < n+3∨n'≤q)→memN q (refO dA)=false:=fun q hq=>by
          rcases BA with ⟨_,rfl⟩ | ⟨r,_,h2,rfl,gA⟩
          · rfl
          · have:=getO_low (H.good n' (Nat.le_refl _)) (show getO G r ≠ .none by rw [gA]; exact fun h=>by cases h)
            show memN q [r]=false
            rw [memN_cons,decide_eq_false (by omega)]; rfl
        have z2:∀ m,n'≤m→getO (K1 m) n = .row 6 [.agg [.int .i64 3,.int .i64 cur.n,.bool cur.hid,.str cur.name,slD 2 encL cur.levels,slD 6 encT cur.kids]]:=fun m hm=>by rw [((A1 m hm).2.2.2.1 n (by omega) (BA.off' (by omega))).1]; exact z0
        have z3:∀ m,n'≤m→getO (K1 m) (n+2) = (Ob.row 6 [.agg [.int .i64 0,.int .i64 0,.bool false,.str [],.nils,.nils]]):=fun m hm=>by rw [((A1 m hm).2.2.2.1 (n+2) (by omega) (BA.off' (by omega))).1]; exact z1
        simp (disch:=first|assumption|omega|(simp (disch:=first|assumption|omega) only [sB,reduceAdd,reduceLT,reduceLeDiff,reduceEqDiff,reduceMul,↓reduceIte,i0,i1];done)|fail) only [sA,↓reduceIte,reduceLT,reduceEqDiff,reduceAdd,reduceLeDiff,q1,q3,q4,z0,z2,hf,e0,e1,a1,hbA,hmA,i0,i1]
        have BA1 := (A1 (n'+6597069766659) (by omega)).2.1
        have H1 := (A1 (n'+6597069766659) (by omega)).2.2.1
        have z02:=z2 (n'+6597069766659) (by omega)
        have z12:=z3 (n'+6597069766659) (by omega)
        refine ⟨_,_,_,_,rfl,.inl ⟨rfl,sizeT k1.abs,by omega,(H1.set (r:=n) (by omega) (fun k _=>lowO_one (low_flat (flatTA k1)))).mono (by omega),by omega,k1,A++[k0],_,rfl,hk0,BA1.set z02 (by omega),getO_set1 z02,getO_set2 z02 z12 (by omega),?_,by rw [List.length_append,List.length_singleton]; omega,by simp +decide only [sG,q1],by simp +decide only [sG,q3],by simp +decide only [sG]⟩⟩
        rw [hsp,strp_pi hf hk]
        simp
      · simp (disch:=first|assumption|omega|(simp (disch:=first|assumption|omega) only [sB,reduceAdd,reduceLT,reduceLeDiff,reduceEqDiff,reduceMul,↓reduceIte];done)|fail) only [sA,↓reduceIte,reduceLT,reduceEqDiff,reduceAdd,reduceLeDiff,q1,z0,hf]
        rw [strp_end hf] at hsp
        exact ⟨_,_,_,_,rfl,.inr ⟨by simp,rfl,H.mono (by omega),by omega,cur,A,dA,BA,z0,z1,by simpa using hsp,by omega,by simp +decide only [sG,q1],by simp +decide only [sG,q3],by simp +decide only [sG,q4]⟩⟩)
    (sizeT t.abs) ⟨H0.mono (by omega),by omega,t,[],.nils,rfl,ht,.inl ⟨rfl,rfl⟩,by rw [getO_tl (by omega),getO_hd],getO_hd,by simp,by simp,by simp +decide only [sG],by simp +decide only [sG],by simp +decide only [sG]⟩
  have w:∀ X,getO (setO G (n+2) X) (n+2)=X:=fun X=>getO_setO_same (by rw [z1]; simp)
  have hA2:=BA.okD
  rw [hsp,encT_eq]
  simp (disch:=first|assumption|omega|(simp (disch:=first|assumption|omega) only [sB,reduceAdd,reduceLT,reduceLeDiff,reduceEqDiff,reduceMul,↓reduceIte];done)|fail) only [sA,↓reduceIte,reduceLT,reduceEqDiff,reduceAdd,reduceLeDiff,q1,q3,q4,z0,z1,w,hA2]
  have HH:Hp n h (nz+4398046511104) (setO G (n+2) (Ob.row 6 [.agg [.int .i64 (hd).form,.int .i64 (hd).n,.bool (hd).hid,.str (hd).name,slD 2 encL (hd).levels,slD 6 encT (hd).kids]])) := (Hz.set (r:=n+2) (by omega) (fun k _=>lowO_one (low_flat (flatTA hd)))).mono (by omega)
  rw [finishD_fz (Fz.tup (.cons (Fz.bld elemT ((BA.set z1 (by omega)).wide (by omega))) (.cons ((Fz.of2 (by rw [← encT_eq]; exact elemT.flat hd)).mono (by omega)) .nil))) (by omega) HH.leak,HH.drop]
end Go.Proofs.Ytpbpmpabndgeeaa
