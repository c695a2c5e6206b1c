/- Counting. No condition but sizes. -/
import Derived.Test.YtpbpmpabndgeeaaER
set_option linter.unusedSimpArgs false
set_option linter.unusedVariables false
namespace Go.Proofs.Ytpbpmpabndgeeaa
open Go
open Nat (reduceAdd reduceLT reduceLeDiff reduceEqDiff reduceMul)

theorem qSet (j:Int) (n:Nat) (h:Hps) (hg:Gd n h):callFn (LX (cF Try.prog)) n h [.int .i64 j] (cF Try.prog 5) = .ok (encT (setT j)) n h:=by
  have hgn:=hg n (Nat.le_refl _)
  show _=Rd.ok (.agg [.int .i64 2,.int .i64 0,.bool false,.str [],.sl 2 [.agg [.int .i64 j,.nils]] [] true,.nils]) n h
  rw [f5_eq]; unfold c5; rw [callFn_eq (by rfl)]
  simp (disch:=first|assumption|omega|(simp (disch:=first|assumption|omega) only [sB,reduceAdd,reduceLT,reduceLeDiff,reduceEqDiff,reduceMul,↓reduceIte];done)|fail) only [sA,↓reduceIte,reduceLT,reduceEqDiff,reduceAdd,reduceLeDiff]
theorem qVar (k:Int) (n:Nat) (h:Hps) (hg:Gd n h):callFn (LX (cF Try.prog)) n h [.int .i64 k] (cF Try.prog 17) = .ok (encT (varT k)) n h:=by
  have hgn:=hg n (Nat.le_refl _)
  show _=Rd.ok (.agg [.int .i64 1,.int .i64 k,.bool false,.str [],.nils,.nils]) n h
  rw [f17_eq]; unfold c17; rw [callFn_eq (by rfl)]
  simp (disch:=first|assumption|omega|(simp (disch:=first|assumption|omega) only [sB,reduceAdd,reduceLT,reduceLeDiff,reduceEqDiff,reduceMul,↓reduceIte];done)|fail) only [sA,↓reduceIte,reduceLT,reduceEqDiff,reduceAdd,reduceLeDiff]
theorem qConst (nm:List Nat) (n:Nat) (h:Hps) (hg:Gd n h):callFn (LX (cF Try.prog)) n h [.str nm,.nils] (cF Try.prog 18) = .ok (encT (conT nm)) n h:=by
  have hgn:=hg n (Nat.le_refl _)
  have a1:∀ m g,appD m g 2 32 .nils (VL.ok 2 []) = .ok .nils m g:=fun _ _=>rfl
  show _=Rd.ok (.agg [.int .i64 10,.int .i64 0,.bool false,.str nm,.nils,.nils]) n h
  rw [f18_eq]; unfold c18; rw [callFn_eq (by rfl)]
  simp (disch:=first|assumption|omega|(simp (disch:=first|assumption|omega) only [sB,reduceAdd,reduceLT,reduceLeDiff,reduceEqDiff,reduceMul,↓reduceIte];done)|fail) only [sA,↓reduceIte,reduceLT,reduceEqDiff,reduceAdd,reduceLeDiff,a1]
theorem qNum (k:Int) (n:Nat) (h:Hps) (hg:Gd n h):callFn (LX (cF Try.prog)) n h [.int .i64 k] (cF Try.prog 12) = .ok (.int .i64 k) n h:=by
  have hgn:=hg n (Nat.le_refl _)
  rw [f12_eq]; unfold c12; rw [callFn_eq (by rfl)]
  simp (disch:=first|assumption|omega|(simp (disch:=first|assumption|omega) only [sB,reduceAdd,reduceLT,reduceLeDiff,reduceEqDiff,reduceMul,↓reduceIte];done)|fail) only [sA,↓reduceIte,reduceLT,reduceEqDiff,reduceAdd,reduceLeDiff]
theorem qNo (k:Nat) (n:Nat) (h:Hps) (hg:Gd n h):callFn (LX (cF Try.prog)) n h [.nils,.int .i64 (k:Nat)] (cF Try.prog 16) = .ok (.bool false) n h:=by
  have hgn:=hg n (Nat.le_refl _)
  have l1:∀ m g,lenD m g .slice .nils = .ok (.int .i64 0) m g:=fun _ _=>rfl
  have q:¬ ((k:Nat):Int) < 0:=by omega
  rw [f16_eq]; unfold c16; rw [callFn_eq (by rfl)]
  simp (disch:=first|assumption|omega|(simp (disch:=first|assumption|omega) only [sB,reduceAdd,reduceLT,reduceLeDiff,reduceEqDiff,reduceMul,↓reduceIte];done)|fail) only [sA,↓reduceIte,reduceLT,reduceEqDiff,reduceAdd,reduceLeDiff,l1,q]
theorem ssl_eq {n:Nat} {h:Hps} {e:Tr} {s:List Nat} {x y:Opd}:ssliceD n h e (.str s) (some x) (some y)=natR (fun l=>natR (fun u=>slS n h s l u) (ev e y)) (ev e x):=rfl
theorem str_add {a b:List Nat} (h:a.length+b.length < 1000000000):binD .add (.str a) (.str b) = .str (a++b):=by
  show Bool.rec (motive:=fun _=>D) .junk (.str (appN a b)) (Nat.blt (lenN a+lenN b) two62)=_
  rw [appN_eq,lenN_eq,lenN_eq,blt_iff,show two62=4611686018427387904 from rfl,decide_eq_true (by omega)]
theorem cutD_ok:∀ w,w < 10→takeN (w+1 - w) (dropN w [48,49,50,51,52,53,54,55,56,57])=[48+w]:=by decide +kernel
theorem slD10 {w m:Nat} {g:Hps} (h:w < 10):slS m g [48,49,50,51,52,53,54,55,56,57] w (w+1) = .ok (.str [48+w]) m g:=by
  show ifR (Bool.and (Nat.ble (w+1) 10) (Nat.ble w (w+1))) (.ok (.str (takeN (w+1 - w) (dropN w [48,49,50,51,52,53,54,55,56,57]))) m g)=_
  rw [cutD_ok w h,ble_iff,ble_iff,decide_eq_true (by omega),decide_eq_true (by omega)]; rfl
theorem rem10 {v:Nat}:binD .rem (.int .i64 (v:Nat)) (.int .i64 10) = .int .i64 ((v % 10:Nat):Int):=rfl
set_option maxHeartbeats 4000000 in
theorem qDig1 {n:Nat} {h:Hps} (hg:Gd n h) {v:Nat} (hv:v < 10):callFn (LX (cF Try.prog)) n h [.int .i64 (v:Nat)] (cF Try.prog 8) = .ok (.str [48+v]) n h:=by
  have hgn:=hg n (Nat.le_refl _)
  have q1:¬ ((v:Nat):Int) > 9:=by omega
  have e:v % 10=v:=by omega
  have c1:=fun m g=>slD10 (m:=m) (g:=g) (w:=v) hv
  have r1:=rem10 (v:=v)
  rw [e] at r1
  rw [f8_eq]; unfold c8; rw [callFn_eq (by rfl)]
  simp (disch:=first|assumption|omega|(simp (disch:=first|assumption|omega) only [sB,reduceAdd,reduceLT,reduceLeDiff,reduceEqDiff,reduceMul,↓reduceIte];done)|fail) only [sA,↓reduceIte,reduceLT,reduceEqDiff,reduceAdd,reduceLeDiff,q1,r1,ssl_eq,c1]
set_option maxHeartbeats 4000000 in
theorem qWrap (t:Tm) {d:D} {l:List Tm} {ad:Nat→D} (hl:l.length≤1000000000) (n:Nat) (h:Hps) (hg:Gd n h) (S:Sv 6 encT n h d l ad):callFn (LX (cF Try.prog)) n h [.int .i64 3,d,.nils,(D.agg [.int .i64 (t).form,.int .i64 (t).n,.bool (t).hid,.str (t).name,slD 2 encL (t).levels,slD 6 encT (t).kids])] (cF Try.prog 6) = .ok (encT (pisT l t)) n h:=by
  have hgn:=hg n (Nat.le_refl _)
  have H0:Hp n h (n+2) ((n+1,(Ob.row 6 [.agg [.int .i64 0,.int .i64 0,.bool false,.str [],.nils,.nils]])) :: (n,(Ob.row 6 [.agg [.int .i64 (t).form,.int .i64 (t).n,.bool (t).hid,.str (t).name,slD 2 encL (t).levels,slD 6 encT (t).kids]]))::h) := ((Hp.start hg).box (r:=n) (m:=n+1) (Nat.le_refl _) (by omega) (flatTA t)).box (r:=n+1) (m:=n+2) (k:=6) (d := (D.agg [.int .i64 0,.int .i64 0,.bool false,.str [],.nils,.nils])) (by omega) (by omega) rfl
  have s1:=S.len
  rw [f6_eq]; unfold c6; rw [callFn_eq (by rfl)]
  simp (disch:=first|assumption|omega|(simp (disch:=first|assumption|omega) only [sB,reduceAdd,reduceLT,reduceLeDiff,reduceEqDiff,reduceMul,↓reduceIte];done)|fail) only [sA,↓reduceIte,reduceLT,reduceEqDiff,reduceAdd,reduceLeDiff,s1]
  generalize hr:LX (cF Try.prog) (.loop l6_0) _ _ _=r
  obtain ⟨x,e2,n2,h2,rfl,rfl,H2,p2,z0,z1,q3,q4⟩:=loop_up hr l.length
    (fun i e n' h'=>Hp n h n' h'∧n+2≤n'∧getO h' n = (Ob.row 6 [.agg [.int .i64 (pisT (l.drop (l.length - i)) t).form,.int .i64 (pisT (l.drop (l.length - i)) t).n,.bool (pisT (l.drop (l.length - i)) t).hid,.str (pisT (l.drop (l.length - i)) t).name,slD 2 encL (pisT (l.drop (l.length - i)) t).levels,slD 6 encT (pisT (l.drop (l.length - i)) t).kids]])∧getO h' (n+1) = (Ob.row 6 [.agg [.int .i64 0,.int .i64 0,.bool false,.str [],.nils,.nils]])∧get (po 0) e = .int .i64 3∧get (po 1) e=d∧get (po 2) e = .nils∧get (po 7) e = .ptr n 0 0∧get (po 8) e = .ptr (n+1) 0 0∧get (po 9) e = .int .i64 ((l.length:Int) - 1 - i))
    (fun x e n' h'=>x = .exit 0∧Hp n h n' h'∧n+2≤n'∧getO h' n = (Ob.row 6 [.agg [.int .i64 (pisT l t).form,.int .i64 (pisT l t).n,.bool (pisT l t).hid,.str (pisT l t).name,slD 2 encL (pisT l t).levels,slD 6 encT (pisT l t).kids]])∧getO h' (n+1) = (Ob.row 6 [.agg [.int .i64 0,.int .i64 0,.bool false,.str [],.nils,.nils]])∧get (po 7) e = .ptr n 0 0∧get (po 8) e = .ptr (n+1) 0 0)
    (by
      rintro e n' h' ⟨H,p1,z0,z1,g0,g1,g2,g7,g8,g9⟩
      rw [Nat.sub_self,List.drop_zero] at z0
      unfold l6_0
      have y:¬ (l.length:Int) - 1 - l.length ≥ 0:=by omega
      simp (disch:=first|assumption|omega|(simp (disch:=first|assumption|omega) only [sB,reduceAdd,reduceLT,reduceLeDiff,reduceEqDiff,reduceMul,↓reduceIte];done)|fail) only [sA,↓reduceIte,reduceLT,reduceEqDiff,reduceAdd,reduceLeDiff,g0,g1,g2,g7,g8,g9,y]
      exact ⟨_,_,_,_,rfl,by simp,rfl,H.mono (by omega),by omega,z0,z1,by simp +decide only [sG,g7],by simp +decide only [sG,g8]⟩)
    (by
      rintro i e n' h' hi ⟨H,p1,z0,z1,g0,g1,g2,g7,g8,g9⟩
      have hle:=H.le
      obtain ⟨j,hj⟩:∃ j,j+1+i=l.length:=⟨l.length - 1 - i,by omega⟩
      have hjl:j < l.length:=by omega
      have e1 : (l.length:Int) - 1 - i = (j:Int):=by omega
      rw [e1] at g9
      have s2:=fun m g=>S.idx m g j hjl
      have s3:=fun m=>S.at H m j hjl
      rw [encT_eq] at s3
      rw [show l.length - i=j+1 by omega] at z0
      rw [show l.length - (i+1)=j by omega,show (l.length:Int) - 1 - (i+1:Nat) = (j:Int) - 1 by omega,List.drop_eq_getElem_cons hjl]
      generalize hX:pisT (l.drop (j+1)) t=X at z0
      have hX2:pisT (l[j]::l.drop (j+1)) t=two 3 l[j] X:=by rw [← hX]; rfl
      rw [hX2]
      have y : (j:Int) ≥ 0:=by omega
      have c1:∀ m h,Gd m h→callFn (LX (cF Try.prog)) m h [.nils,.int .i64 (j:Nat)] (cF Try.prog 16) = .ok (.bool false) m h:=qNo j
      unfold l6_0
      have hG:∀ m,n'≤m→Gd m h':=fun m hm=>H.good' hm
      simp (disch:=first|assumption|omega|(simp (disch:=first|assumption|omega) only [sB,reduceAdd,reduceLT,reduceLeDiff,reduceEqDiff,reduceMul,↓reduceIte,hG,gd_nil];done)|fail) only [sA,↓reduceIte,reduceLT,reduceEqDiff,reduceAdd,reduceLeDiff,g0,g1,g2,g7,g8,g9,y,s2,s3,z0,z1,c1,keys_gd,hG,gd_nil]
      have e1 : (Ob.row 6 [.agg [.int .i64 (two 3 l[j] X).form,.int .i64 (two 3 l[j] X).n,.bool (two 3 l[j] X).hid,.str (two 3 l[j] X).name,slD 2 encL (two 3 l[j] X).levels,slD 6 encT (two 3 l[j] X).kids]]) = .row 6 [.agg [.int .i64 3,.int .i64 0,.bool false,.str [],.nils,.sl 6 [(D.agg [.int .i64 (l[j]).form,.int .i64 (l[j]).n,.bool (l[j]).hid,.str (l[j]).name,slD 2 encL (l[j]).levels,slD 6 encT (l[j]).kids]),(D.agg [.int .i64 (X).form,.int .i64 (X).n,.bool (X).hid,.str (X).name,slD 2 encL (X).levels,slD 6 encT (X).kids])] [] true]]:=by rw [two_box,encT_eq,encT_eq]
      exact ⟨_,_,_,_,rfl,.inl ⟨rfl,((H.set (r:=n) (by omega) (fun k hk=>by rw [← e1]; exact lowO_one (low_flat (flatTA _))))).mono (by omega),by omega,by rw [getO_set1 z0,← e1],by rw [getO_set2 z0 z1 (by omega)],by simp +decide only [sG,g0],by simp +decide only [sG,g1],by simp +decide only [sG,g2],by simp +decide only [sG,g7],by simp +decide only [sG,g8],by simp +decide only [sG]⟩⟩)
    ⟨H0.mono (by omega),by omega,by rw [getO_tl (by omega),getO_hd,Nat.sub_zero,List.drop_length]; rfl,getO_hd,by simp +decide only [sG],by simp +decide only [sG],by simp +decide only [sG],by simp +decide only [sG],by simp +decide only [sG],by simp +decide only [sG]; simp⟩
  have w:∀ X,getO (setO h2 (n+1) X) (n+1)=X:=fun X=>getO_setO_same (by rw [z1]; simp)
  rw [encT_eq]
  simp (disch:=first|assumption|omega|(simp (disch:=first|assumption|omega) only [sB,reduceAdd,reduceLT,reduceLeDiff,reduceEqDiff,reduceMul,↓reduceIte];done)|fail) only [sA,↓reduceIte,reduceLT,reduceEqDiff,reduceAdd,reduceLeDiff,q3,q4,z0,z1,w]
  exact finish_flat (flatTA _) ((H2.set (r:=n+1) (by omega) (fun k hk=>lowO_one (low_flat (flatTA _)))).mono (by omega))
set_option maxHeartbeats 4000000 in
theorem qApps (f:Tm) {d:D} {l:List Tm} {ad:Nat→D} (hl:l.length≤1000000000) (n:Nat) (h:Hps) (hg:Gd n h) (S:Sv 6 encT n h d l ad):callFn (LX (cF Try.prog)) n h [(D.agg [.int .i64 (f).form,.int .i64 (f).n,.bool (f).hid,.str (f).name,slD 2 encL (f).levels,slD 6 encT (f).kids]),d,.nils] (cF Try.prog 19) = .ok (encT (appT f l)) n h:=by
  have hgn:=hg n (Nat.le_refl _)
  have H0:Hp n h (n+2) ((n+1,(Ob.row 6 [.agg [.int .i64 0,.int .i64 0,.bool false,.str [],.nils,.nils]])) :: (n,(Ob.row 6 [.agg [.int .i64 (f).form,.int .i64 (f).n,.bool (f).hid,.str (f).name,slD 2 encL (f).levels,slD 6 encT (f).kids]]))::h) := ((Hp.start hg).box (r:=n) (m:=n+1) (Nat.le_refl _) (by omega) (flatTA f)).box (r:=n+1) (m:=n+2) (k:=6) (d := (D.agg [.int .i64 0,.int .i64 0,.bool false,.str [],.nils,.nils])) (by omega) (by omega) rfl
  have s1:=S.len
  rw [f19_eq]; unfold c19; rw [callFn_eq (by rfl)]
  simp (disch:=first|assumption|omega|(simp (disch:=first|assumption|omega) only [sB,reduceAdd,reduceLT,reduceLeDiff,reduceEqDiff,reduceMul,↓reduceIte];done)|fail) only [sA,↓reduceIte,reduceLT,reduceEqDiff,reduceAdd,reduceLeDiff,s1]
  generalize hr:LX (cF Try.prog) (.loop l19_0) _ _ _=r
  obtain ⟨x,e2,n2,h2,rfl,rfl,H2,p2,z0,z1,q2,q4⟩:=loop_up hr l.length
    (fun i e n' h'=>Hp n h n' h'∧n+2≤n'∧getO h' n = (Ob.row 6 [.agg [.int .i64 (appT f (l.take i)).form,.int .i64 (appT f (l.take i)).n,.bool (appT f (l.take i)).hid,.str (appT f (l.take i)).name,slD 2 encL (appT f (l.take i)).levels,slD 6 encT (appT f (l.take i)).kids]])∧getO h' (n+1) = (Ob.row 6 [.agg [.int .i64 0,.int .i64 0,.bool false,.str [],.nils,.nils]])∧get (po 1) e=d∧get (po 2) e = .nils∧get (po 3) e = .ptr n 0 0∧get (po 6) e = .ptr (n+1) 0 0∧get (po 7) e = .int .i64 (i:Nat))
    (fun x e n' h'=>x = .exit 0∧Hp n h n' h'∧n+2≤n'∧getO h' n = (Ob.row 6 [.agg [.int .i64 (appT f l).form,.int .i64 (appT f l).n,.bool (appT f l).hid,.str (appT f l).name,slD 2 encL (appT f l).levels,slD 6 encT (appT f l).kids]])∧getO h' (n+1) = (Ob.row 6 [.agg [.int .i64 0,.int .i64 0,.bool false,.str [],.nils,.nils]])∧get (po 3) e = .ptr n 0 0∧get (po 6) e = .ptr (n+1) 0 0)
    (by
      rintro e n' h' ⟨H,p1,z0,z1,g1,g2,g3,g6,g7⟩
      rw [List.take_length] at z0
      unfold l19_0
      simp (disch:=first|assumption|omega|(simp (disch:=first|assumption|omega) only [sB,reduceAdd,reduceLT,reduceLeDiff,reduceEqDiff,reduceMul,↓reduceIte];done)|fail) only [sA,↓reduceIte,reduceLT,reduceEqDiff,reduceAdd,reduceLeDiff,g1,g2,g3,g6,g7,s1]
      exact ⟨_,_,_,_,rfl,by simp,rfl,H.mono (by omega),by omega,z0,z1,by simp +decide only [sG,g3],by simp +decide only [sG,g6]⟩)
    (by
      rintro i e n' h' hi ⟨H,p1,z0,z1,g1,g2,g3,g6,g7⟩
      have hle:=H.le
      have s2:=fun m g=>S.idx m g i hi
      have s3:=fun m=>S.at H m i hi
      rw [encT_eq] at s3
      have c1:∀ m h,Gd m h→callFn (LX (cF Try.prog)) m h [.nils,.int .i64 (i:Nat)] (cF Try.prog 16) = .ok (.bool false) m h:=qNo i
      have hG:∀ m,n'≤m→Gd m h':=fun m hm=>H.good' hm
      generalize hX:appT f (l.take i)=X at z0
      unfold l19_0
      simp (disch:=first|assumption|omega|(simp (disch:=first|assumption|omega) only [sB,reduceAdd,reduceLT,reduceLeDiff,reduceEqDiff,reduceMul,↓reduceIte,hG,gd_nil];done)|fail) only [sA,↓reduceIte,reduceLT,reduceEqDiff,reduceAdd,reduceLeDiff,g1,g2,g3,g6,g7,s1,s2,s3,z0,z1,c1,keys_gd,hG,gd_nil]
      have e1 : (Ob.row 6 [.agg [.int .i64 (two 5 X l[i]).form,.int .i64 (two 5 X l[i]).n,.bool (two 5 X l[i]).hid,.str (two 5 X l[i]).name,slD 2 encL (two 5 X l[i]).levels,slD 6 encT (two 5 X l[i]).kids]]) = .row 6 [.agg [.int .i64 5,.int .i64 0,.bool false,.str [],.nils,.sl 6 [(D.agg [.int .i64 (X).form,.int .i64 (X).n,.bool (X).hid,.str (X).name,slD 2 encL (X).levels,slD 6 encT (X).kids]),(D.agg [.int .i64 (l[i]).form,.int .i64 (l[i]).n,.bool (l[i]).hid,.str (l[i]).name,slD 2 encL (l[i]).levels,slD 6 encT (l[i]).kids])] [] true]]:=by rw [two_box,encT_eq,encT_eq]
      exact ⟨_,_,_,_,rfl,.inl ⟨rfl,((H.set (r:=n) (by omega) (fun k hk=>by rw [← e1]; exact lowO_one (low_flat (flatTA _))))).mono (by omega),by omega,by rw [getO_set1 z0,appT_take hi,hX,← e1],by rw [getO_set2 z0 z1 (by omega)],by simp +decide only [sG,g1],by simp +decide only [sG,g2],by simp +decide only [sG,g3],by simp +decide only [sG,g6],by simp +decide only [sG]⟩⟩)
    ⟨H0.mono (by omega),by omega,by rw [getO_tl (by omega),getO_hd]; rfl,getO_hd,by simp +decide only [sG],by simp +decide only [sG],by simp +decide only [sG],by simp +decide only [sG],by simp (disch:=first|assumption|omega|(simp (disch:=first|assumption|omega) only [sB,reduceAdd,reduceLT,reduceLeDiff,reduceEqDiff,reduceMul,↓reduceIte];done)|fail) only [sA,↓reduceIte,reduceLT,reduceEqDiff,reduceAdd,reduceLeDiff]⟩
  have w:∀ X,getO (setO h2 (n+1) X) (n+1)=X:=fun X=>getO_setO_same (by rw [z1]; simp)
  rw [encT_eq]
  simp (disch:=first|assumption|omega|(simp (disch:=first|assumption|omega) only [sB,reduceAdd,reduceLT,reduceLeDiff,reduceEqDiff,reduceMul,↓reduceIte];done)|fail) only [sA,↓reduceIte,reduceLT,reduceEqDiff,reduceAdd,reduceLeDiff,q2,q4,z0,z1,w]
  exact finish_flat (flatTA _) ((H2.set (r:=n+1) (by omega) (fun k hk=>lowO_one (low_flat (flatTA _)))).mono (by omega))
theorem Hp.chain {n0 n1 m:Nat} {h0 h1 G:Hps} (A:Hp n0 h0 n1 h1) (B:Hp n1 h1 m G):Hp n0 h0 m G:=by
  have h01:=A.le
  have h12:=B.le
  have hd:∀ X:Hps,dropFrom n0 (dropFrom n1 X)=dropFrom n0 X:=fun X=>by
    induction X with
    | nil=>rfl
    | cons x t ih =>
      obtain ⟨q,o⟩:=x
      by_cases e:q < n1
      · rw [drop_old e]
        by_cases e2:q < n0
        · rw [drop_old e2,drop_old e2,ih]
        · rw [drop_new (by omega),drop_new (by omega),ih]
      · rw [drop_new (by omega),drop_new (by omega),ih]
  refine ⟨by omega,B.good,by rw [← hd,B.drop,A.drop],?_⟩
  rw [leak_iff]
  intro p hp hq
  have:p∈h1:=by rw [← B.drop]; exact mem_drop.2 ⟨hp,by omega⟩
  exact leak_iff.1 A.leak p this hq
def atT (P:Nat) (x:Int) (I:Nat):Tm:=appT (conT [68]) (varsT P x++List.replicate I (conT [97]))
set_option maxRecDepth 10000 in
set_option maxHeartbeats 8000000 in
theorem qAt (P:Nat) (x:Int) (I:Nat) (hP:P≤1000 ∧ (0≤x∧x≤1000)∧I≤1000) (n:Nat) (h:Hps) (hg:Gd n h):callFn (LX (cF Try.prog)) n h [.int .i64 (P:Nat),.int .i64 x,.int .i64 (I:Nat)] (cF Try.prog 7) = .ok (encT (atT P x I)) n h:=by
  have hgn:=hg n (Nat.le_refl _)
  have H0:Hp n h (n+1) ((n,(Ob.row 6 [.agg [.int .i64 0,.int .i64 0,.bool false,.str [],.nils,.nils]]))::h) := (Hp.start hg).box (r:=n) (m:=n+1) (k:=6) (d := (D.agg [.int .i64 0,.int .i64 0,.bool false,.str [],.nils,.nils])) (Nat.le_refl _) (by omega) rfl
  rw [f7_eq]; unfold c7; rw [callFn_eq (by rfl)]
  simp (disch:=first|assumption|omega|(simp (disch:=first|assumption|omega) only [sB,reduceAdd,reduceLT,reduceLeDiff,reduceEqDiff,reduceMul,↓reduceIte];done)|fail) only [sA,↓reduceIte,reduceLT,reduceEqDiff,reduceAdd,reduceLeDiff]
  generalize hr:LX (cF Try.prog) (.loop l7_0) _ _ _=r
  obtain ⟨y,e2,n2,h2,rfl,rfl,H2,p2,d,B,q7,q0,q1,q2,q6⟩:=loop_up hr P
    (fun i e n' h'=>Hp (n+1) ((n,(Ob.row 6 [.agg [.int .i64 0,.int .i64 0,.bool false,.str [],.nils,.nils]]))::h) n' h'∧n+1≤n' ∧ (∃ d,Bld 6 encT (n+1) ((varsT P x).take i) h' d∧get (po 7) e=d)∧get (po 0) e = .int .i64 (P:Nat)∧get (po 1) e = .int .i64 x∧get (po 2) e = .int .i64 (I:Nat)∧get (po 6) e = .ptr n 0 0∧get (po 8) e = .int .i64 (i:Nat))
    (fun y e n' h'=>y = .exit 0∧Hp (n+1) ((n,(Ob.row 6 [.agg [.int .i64 0,.int .i64 0,.bool false,.str [],.nils,.nils]]))::h) n' h'∧n+1≤n'∧∃ d,Bld 6 encT (n+1) (varsT P x) h' d∧get (po 7) e=d∧get (po 0) e = .int .i64 (P:Nat)∧get (po 1) e = .int .i64 x∧get (po 2) e = .int .i64 (I:Nat)∧get (po 6) e = .ptr n 0 0)
    (by
      rintro e n' h' ⟨H,p1,⟨d,B,g7⟩,g0,g1,g2,g6,g8⟩
      rw [List.take_of_length_le (by rw [varsT_len]; omega)] at B
      unfold l7_0
      simp (disch:=first|assumption|omega|(simp (disch:=first|assumption|omega) only [sB,reduceAdd,reduceLT,reduceLeDiff,reduceEqDiff,reduceMul,↓reduceIte];done)|fail) only [sA,↓reduceIte,reduceLT,reduceEqDiff,reduceAdd,reduceLeDiff,g0,g1,g2,g6,g7,g8]
      exact ⟨_,_,_,_,rfl,by simp,rfl,H.mono (by omega),by omega,d,B,by simp +decide only [sG,g7],by simp +decide only [sG,g0],by simp +decide only [sG,g1],by simp +decide only [sG,g2],by simp +decide only [sG,g6]⟩)
    (by
      rintro i e n' h' hi ⟨H,p1,⟨d,B,g7⟩,g0,g1,g2,g6,g8⟩
      have hG:∀ m,n'≤m→Gd m h':=fun m hm=>H.good' hm
      have c1:∀ m h,Gd m h→callFn (LX (cF Try.prog)) m h [.int .i64 (x+P - 1 - i)] (cF Try.prog 17) = .ok (.agg [.int .i64 1,.int .i64 (x+P - 1 - i),.bool false,.str [],.nils,.nils]) m h:=fun m h hg=>qVar _ m h hg
      have hbo:=B.okD
      obtain ⟨D',H',A⟩:=app_bldx (b:=88) B H (Nat.le_refl _) H.le (fun m x=>low_flat (flatT x)) [varT (x+P - 1 - i)] (by have:=varsT_len P x; simp; omega)
      have A1:=fun m hm => (A m hm).1
      simp only [List.map_cons,List.map_nil,enc_var] at A1
      unfold l7_0
      simp (disch:=first|assumption|omega|(simp (disch:=first|assumption|omega) only [sB,reduceAdd,reduceLT,reduceLeDiff,reduceEqDiff,reduceMul,↓reduceIte,hG];done)|fail) only [sA,↓reduceIte,reduceLT,reduceEqDiff,reduceAdd,reduceLeDiff,g0,g1,g2,g6,g7,g8,c1,hbo,A1,hG]
      exact ⟨_,_,_,_,rfl,.inl ⟨rfl,((A _ (by omega)).2.2.1).mono (by omega),by omega,⟨_,by rw [varsT_take hi]; exact (A _ (by omega)).2.1,by simp +decide only [sG]⟩,by simp +decide only [sG,g0],by simp +decide only [sG,g1],by simp +decide only [sG,g2],by simp +decide only [sG,g6],by simp +decide only [sG]⟩⟩)
    ⟨(Hp.start (H0.good' (by omega))).mono (by omega),by omega,⟨.nils,.inl ⟨by simp,rfl⟩,by simp +decide only [sG]⟩,by simp +decide only [sG],by simp +decide only [sG],by simp +decide only [sG],by simp +decide only [sG],by simp (disch:=first|assumption|omega|(simp (disch:=first|assumption|omega) only [sB,reduceAdd,reduceLT,reduceLeDiff,reduceEqDiff,reduceMul,↓reduceIte];done)|fail) only [sA,↓reduceIte,reduceLT,reduceEqDiff,reduceAdd,reduceLeDiff]⟩
  simp (disch:=first|assumption|omega|(simp (disch:=first|assumption|omega) only [sB,reduceAdd,reduceLT,reduceLeDiff,reduceEqDiff,reduceMul,↓reduceIte];done)|fail) only [sA,↓reduceIte,reduceLT,reduceEqDiff,reduceAdd,reduceLeDiff]
  generalize hr:LX (cF Try.prog) (.loop l7_1) _ _ _=r
  obtain ⟨y,e3,n3,h3,rfl,rfl,H3,p3,d,B,q7,q6⟩:=loop_up hr I
    (fun i e n' h'=>Hp (n+1) ((n,(Ob.row 6 [.agg [.int .i64 0,.int .i64 0,.bool false,.str [],.nils,.nils]]))::h) n' h'∧n+1≤n' ∧ (∃ d,Bld 6 encT (n+1) (varsT P x++List.replicate i (conT [97])) h' d∧get (po 7) e=d)∧get (po 2) e = .int .i64 (I:Nat)∧get (po 6) e = .ptr n 0 0∧get (po 9) e = .int .i64 (i:Nat))
    (fun y e n' h'=>y = .exit 2∧Hp (n+1) ((n,(Ob.row 6 [.agg [.int .i64 0,.int .i64 0,.bool false,.str [],.nils,.nils]]))::h) n' h'∧n+1≤n'∧∃ d,Bld 6 encT (n+1) (varsT P x++List.replicate I (conT [97])) h' d∧get (po 7) e=d∧get (po 6) e = .ptr n 0 0)
    (by
      rintro e n' h' ⟨H,p1,⟨d,B,g7⟩,g2,g6,g9⟩
      unfold l7_1
      simp (disch:=first|assumption|omega|(simp (disch:=first|assumption|omega) only [sB,reduceAdd,reduceLT,reduceLeDiff,reduceEqDiff,reduceMul,↓reduceIte];done)|fail) only [sA,↓reduceIte,reduceLT,reduceEqDiff,reduceAdd,reduceLeDiff,g2,g6,g7,g9]
      exact ⟨_,_,_,_,rfl,by simp,rfl,H.mono (by omega),by omega,d,B,by simp +decide only [sG,g7],by simp +decide only [sG,g6]⟩)
    (by
      rintro i e n' h' hi ⟨H,p1,⟨d,B,g7⟩,g2,g6,g9⟩
      have hG:∀ m,n'≤m→Gd m h':=fun m hm=>H.good' hm
      have c1:∀ m h,Gd m h→callFn (LX (cF Try.prog)) m h [.str [97],.nils] (cF Try.prog 18) = .ok (.agg [.int .i64 10,.int .i64 0,.bool false,.str [97],.nils,.nils]) m h:=fun m h hg=>qConst [97] m h hg
      have hbo:=B.okD
      obtain ⟨D',H',A⟩:=app_bldx (b:=88) B H (Nat.le_refl _) H.le (fun m x=>low_flat (flatT x)) [conT [97]] (by have:=varsT_len P x; simp; omega)
      have A1:=fun m hm => (A m hm).1
      have ec:encT (conT [97]) = .agg [.int .i64 10,.int .i64 0,.bool false,.str [97],.nils,.nils]:=rfl
      simp only [List.map_cons,List.map_nil,ec] at A1
      unfold l7_1
      simp (disch:=first|assumption|omega|(simp (disch:=first|assumption|omega) only [sB,reduceAdd,reduceLT,reduceLeDiff,reduceEqDiff,reduceMul,↓reduceIte,hG];done)|fail) only [sA,↓reduceIte,reduceLT,reduceEqDiff,reduceAdd,reduceLeDiff,g2,g6,g7,g9,c1,hbo,A1,hG]
      exact ⟨_,_,_,_,rfl,.inl ⟨rfl,((A _ (by omega)).2.2.1).mono (by omega),by omega,⟨_,by rw [List.replicate_succ',← List.append_assoc]; exact (A _ (by omega)).2.1,by simp +decide only [sG]⟩,by simp +decide only [sG,g2],by simp +decide only [sG,g6],by simp +decide only [sG]⟩⟩)
    ⟨H2.mono (by omega),by omega,⟨d,by rw [List.replicate_zero,List.append_nil]; exact B,by simp +decide only [sG,q7]⟩,by simp +decide only [sG,q2],by simp +decide only [sG,q6],by simp (disch:=first|assumption|omega|(simp (disch:=first|assumption|omega) only [sB,reduceAdd,reduceLT,reduceLeDiff,reduceEqDiff,reduceMul,↓reduceIte];done)|fail) only [sA,↓reduceIte,reduceLT,reduceEqDiff,reduceAdd,reduceLeDiff]⟩
  have hG:∀ m,n3≤m→Gd m h3:=fun m hm=>H3.good' hm
  have c1:∀ m h,Gd m h→callFn (LX (cF Try.prog)) m h [.str [68],.nils] (cF Try.prog 18) = .ok (D.agg [.int .i64 (conT [68]).form,.int .i64 (conT [68]).n,.bool (conT [68]).hid,.str (conT [68]).name,slD 2 encL (conT [68]).levels,slD 6 encT (conT [68]).kids]) m h:=fun m h hg=>by rw [← encT_eq]; exact qConst [68] m h hg
  have hbo:=B.okD
  obtain ⟨ad,S⟩:=B.sv (H3.good n3 (Nat.le_refl _)) encA
  have c2:∀ m,n3≤m→callFn (LX (cF Try.prog)) m h3 [(D.agg [.int .i64 (conT [68]).form,.int .i64 (conT [68]).n,.bool (conT [68]).hid,.str (conT [68]).name,slD 2 encL (conT [68]).levels,slD 6 encT (conT [68]).kids]),d,.nils] (cF Try.prog 19) = .ok (encT (atT P x I)) m h3:=fun m hm=>qApps (conT [68]) (by have:=varsT_len P x; simp; omega) m h3 (hG m hm) (S.mono (Hp.start (hG n3 (Nat.le_refl _))) hm)
  have z:getO h3 n = (Ob.row 6 [.agg [.int .i64 0,.int .i64 0,.bool false,.str [],.nils,.nils]]):=by rw [H3.get (by omega),getO_hd]
  have z':∀ o,getO (setO h3 n o) n=o:=fun o=>getO_setO_same (by rw [z]; simp)
  generalize atT P x I=T at c2 ⊢
  rw [encT_eq] at c2 ⊢
  simp (disch:=first|assumption|omega|(simp (disch:=first|assumption|omega) only [sB,reduceAdd,reduceLT,reduceLeDiff,reduceEqDiff,reduceMul,↓reduceIte,hG];done)|fail) only [sA,↓reduceIte,reduceLT,reduceEqDiff,reduceAdd,reduceLeDiff,q7,q6,hbo,c1,c2,z,z',hG]
  exact finish_flat (flatTA _) (((H0.chain H3).set (r:=n) (by omega) (fun k hk=>lowO_one (low_flat (flatTA _)))).mono (by omega))
end Go.Proofs.Ytpbpmpabndgeeaa
set_option linter.unusedSimpArgs false
set_option linter.unusedVariables false
namespace Go.Proofs.Ytpbpmpabndgeeaa
open Go
open Nat (reduceAdd reduceLT reduceLeDiff reduceEqDiff reduceMul)

def npi (t:Tm):Nat := (strp t).1.length
set_option maxHeartbeats 8000000 in
theorem pPisN (t:Tm) (ht:formedT t.abs=true) (hs:sizeT t.abs≤100000) (n:Nat) (h:Hps) (hg:Gd n h):callFn (LX (cF Try.prog)) n h [(D.agg [.int .i64 (t).form,.int .i64 (t).n,.bool (t).hid,.str (t).name,slD 2 encL (t).levels,slD 6 encT (t).kids])] (cF Try.prog 13) = .ok (.int .i64 (npi t:Nat)) n h:=by
  have hgn:=hg n (Nat.le_refl _)
  have H0:Hp n h (n+1) ((n,(Ob.row 6 [.agg [.int .i64 (t).form,.int .i64 (t).n,.bool (t).hid,.str (t).name,slD 2 encL (t).levels,slD 6 encT (t).kids]]))::h) := (Hp.start hg).box (r:=n) (m:=n+1) (Nat.le_refl _) (by omega) (flatTA t)
  rw [f13_eq]; unfold c13; rw [callFn_eq (by rfl)]
  simp (disch:=first|assumption|omega|(simp (disch:=first|assumption|omega) only [sB,reduceAdd,reduceLT,reduceLeDiff,reduceEqDiff,reduceMul,↓reduceIte];done)|fail) only [sA,↓reduceIte,reduceLT,reduceEqDiff,reduceAdd,reduceLeDiff]
  generalize hr:LX (cF Try.prog) (.loop l13_0) _ _ _=R
  obtain ⟨x,ez,nz,G,rfl,rfl,Hz,p1,q3⟩:=loop_at hr
    (fun j e n' G=>Hp n h n' G∧n+1≤n'∧∃ (cur:Tm) (A:Nat),sizeT cur.abs=j∧formedT cur.abs=true∧getO G n = (Ob.row 6 [.agg [.int .i64 (cur).form,.int .i64 (cur).n,.bool (cur).hid,.str (cur).name,slD 2 encL (cur).levels,slD 6 encT (cur).kids]]) ∧
      npi t=A+npi cur∧A+j≤sizeT t.abs∧get (po 1) e = .ptr n 0 0∧get (po 3) e = .int .i64 (A:Nat))
    (fun x e n' G=>x = .exit 0∧Hp n h n' G∧n+1≤n'∧get (po 3) e = .int .i64 (npi t:Nat))
    (by
      rintro j e n' G ⟨H,p1,cur,A,hj,hcf,z0,hsp,hAl,q1,q3⟩
      unfold l13_0
      by_cases hf:cur.form=3
      · obtain ⟨k0,k1,hk,hk0,hsz⟩:=kids_two3 hf hcf
        have i1:1 < cur.kids.el.length:=by rw [hk]; simp
        have e1:∀ hh,encT (cur.kids.el[1]'hh) = (D.agg [.int .i64 (k1).form,.int .i64 (k1).n,.bool (k1).hid,.str (k1).name,slD 2 encL (k1).levels,slD 6 encT (k1).kids]):=fun hh=>by simp only [hk]; exact encT_eq _
        rw [hf] at z0
        simp (disch:=first|assumption|omega|(simp (disch:=first|assumption|omega) only [sB,reduceAdd,reduceLT,reduceLeDiff,reduceEqDiff,reduceMul,↓reduceIte,i1];done)|fail) only [sA,↓reduceIte,reduceLT,reduceEqDiff,reduceAdd,reduceLeDiff,q1,q3,z0,hf,e1,i1]
        refine ⟨_,_,_,_,rfl,.inl ⟨rfl,sizeT k1.abs,by omega,(H.set (r:=n) (by omega) (fun k _=>lowO_one (low_flat (flatTA k1)))).mono (by omega),by omega,k1,A+1,rfl,hk0,getO_set1 z0,?_,by omega,by simp +decide only [sG,q1],by simp +decide only [sG]⟩⟩
        rw [hsp]
        unfold npi
        rw [strp_pi hf hk,List.length_cons]; omega
      · simp (disch:=first|assumption|omega|(simp (disch:=first|assumption|omega) only [sB,reduceAdd,reduceLT,reduceLeDiff,reduceEqDiff,reduceMul,↓reduceIte];done)|fail) only [sA,↓reduceIte,reduceLT,reduceEqDiff,reduceAdd,reduceLeDiff,q1,z0,hf]
        have:npi cur=0:=by unfold npi; rw [strp_end hf]; rfl
        rw [this] at hsp
        exact ⟨_,_,_,_,rfl,.inr ⟨by simp,rfl,H.mono (by omega),by omega,by rw [hsp]; simp (disch:=first|assumption|omega|(simp (disch:=first|assumption|omega) only [sB,reduceAdd,reduceLT,reduceLeDiff,reduceEqDiff,reduceMul,↓reduceIte];done)|fail) only [sA,↓reduceIte,reduceLT,reduceEqDiff,reduceAdd,reduceLeDiff,q3]⟩⟩)
    (sizeT t.abs) ⟨H0.mono (by omega),by omega,t,0,rfl,ht,getO_hd,by omega,by omega,by simp +decide only [sG],by simp (disch:=first|assumption|omega|(simp (disch:=first|assumption|omega) only [sB,reduceAdd,reduceLT,reduceLeDiff,reduceEqDiff,reduceMul,↓reduceIte];done)|fail) only [sA,↓reduceIte,reduceLT,reduceEqDiff,reduceAdd,reduceLeDiff]⟩
  simp (disch:=first|assumption|omega|(simp (disch:=first|assumption|omega) only [sB,reduceAdd,reduceLT,reduceLeDiff,reduceEqDiff,reduceMul,↓reduceIte];done)|fail) only [sA,↓reduceIte,reduceLT,reduceEqDiff,reduceAdd,reduceLeDiff,q3]
  exact finish_flat (d := .int .i64 (npi t:Nat)) rfl (Hz.mono (show nz≤nz+2 by omega))
end Go.Proofs.Ytpbpmpabndgeeaa
