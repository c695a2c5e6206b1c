/- The law's walk, whole. -/
import Derived.Test.YtpbpmpabndgeeaaEV
set_option linter.unusedSimpArgs false
set_option linter.unusedVariables false
namespace Go.Proofs.Ytpbpmpabndgeeaa
open Go
open Nat (reduceAdd reduceLT reduceLeDiff reduceEqDiff reduceMul)

def faT (P I C pl rc:Nat):Fa:=⟨[68],typT P I,P,csT P I pl rc C,hdT (lT (P+I)) P,(Sl.app (lT (P+I))).cut P (lT (P+I)).length,⟨1,Sl.app []⟩⟩
theorem fin_bool {n m:Nat} {h:Hps} {b:Bool}:∃ n' h',finishD n m h (.bool b) = .ok (.bool b) n' h':=by
  unfold finishD
  cases Bool.or (hasP n 20 (.bool b)) (leak n h) with
  | true=>exact ⟨_,_,rfl⟩
  | false=>exact ⟨_,_,rfl⟩
set_option maxRecDepth 10000 in
set_option maxHeartbeats 16000000 in
theorem eL0 {P I C pl rc:Nat} {e:Tr} {n:Nat} {hz:Hps} (HS:Hp 49 hz n hz) (yz:getO hz 48 = (Ob.row 6 [.agg [.int .i64 (setT 0).form,.int .i64 (setT 0).n,.bool (setT 0).hid,.str (setT 0).name,slD 2 encL (setT 0).levels,slD 6 encT (setT 0).kids]])) (hP:P≤5) (hI:I≤5)
    (g0:get (po 0) e = .int .i64 (P:Nat)) (g1:get (po 1) e = .int .i64 (I:Nat)) (g2:get (po 2) e = .int .i64 (C:Nat)) (g3:get (po 3) e = .int .i64 (pl:Nat)) (g4:get (po 4) e = .int .i64 (rc:Nat)) (g12:get (po 12) e = .ptr 48 0 0) (g13:get (po 13) e = .nils) (g14:get (po 14) e = .int .i64 0) {r0:Re} (hr:LX (cF Try.prog) (.loop l3_0) e n hz=r0) :
    ∃ e2 n2 h2 d2,r0 = .ok (.exit 0) e2 n2 h2∧Hp 49 hz n2 h2∧n≤n2∧Bld 6 encT 49 (lT (P+I)) h2 d2 ∧
      get (po 0) e2 = .int .i64 (P:Nat)∧get (po 1) e2 = .int .i64 (I:Nat)∧get (po 2) e2 = .int .i64 (C:Nat)∧get (po 3) e2 = .int .i64 (pl:Nat)∧get (po 4) e2 = .int .i64 (rc:Nat)∧get (po 12) e2 = .ptr 48 0 0∧get (po 13) e2=d2:=by
  obtain ⟨y,e2,n2,h2,rfl,rfl,H2,p2,d2,B2,a0,a1,a2,a3,a4,a12,a13⟩:=loop_up hr (P+I)
    (fun i e n' h'=>Hp 49 hz n' h'∧n≤n'∧∃ d,Bld 6 encT 49 (lT i) h' d∧get (po 0) e = .int .i64 (P:Nat)∧get (po 1) e = .int .i64 (I:Nat)∧get (po 2) e = .int .i64 (C:Nat)∧get (po 3) e = .int .i64 (pl:Nat)∧get (po 4) e = .int .i64 (rc:Nat)∧get (po 12) e = .ptr 48 0 0∧get (po 13) e=d∧get (po 14) e = .int .i64 (i:Nat))
    (fun y e n' h'=>y = .exit 0∧Hp 49 hz n' h'∧n≤n'∧∃ d,Bld 6 encT 49 (lT (P+I)) h' d∧get (po 0) e = .int .i64 (P:Nat)∧get (po 1) e = .int .i64 (I:Nat)∧get (po 2) e = .int .i64 (C:Nat)∧get (po 3) e = .int .i64 (pl:Nat)∧get (po 4) e = .int .i64 (rc:Nat)∧get (po 12) e = .ptr 48 0 0∧get (po 13) e=d)
    (by
      rintro e n' h' ⟨H,p1,d,B,g0,g1,g2,g3,g4,g12,g13,g14⟩
      unfold l3_0
      simp (disch:=first|assumption|omega|(simp (disch:=first|assumption|omega) only [sB,reduceAdd,reduceLT,reduceLeDiff,reduceEqDiff,reduceMul,↓reduceIte];done)|fail) only [sA,↓reduceIte,reduceLT,reduceEqDiff,reduceAdd,reduceLeDiff,g0,g1,g14]
      exact ⟨_,_,_,_,rfl,by simp,rfl,H.mono (by omega),by omega,d,B,by simp (disch:=first|assumption|omega|(simp (disch:=first|assumption|omega) only [sB,reduceAdd,reduceLT,reduceLeDiff,reduceEqDiff,reduceMul,↓reduceIte];done)|fail) only [sA,↓reduceIte,reduceLT,reduceEqDiff,reduceAdd,reduceLeDiff,g0],by simp (disch:=first|assumption|omega|(simp (disch:=first|assumption|omega) only [sB,reduceAdd,reduceLT,reduceLeDiff,reduceEqDiff,reduceMul,↓reduceIte];done)|fail) only [sA,↓reduceIte,reduceLT,reduceEqDiff,reduceAdd,reduceLeDiff,g1],by simp (disch:=first|assumption|omega|(simp (disch:=first|assumption|omega) only [sB,reduceAdd,reduceLT,reduceLeDiff,reduceEqDiff,reduceMul,↓reduceIte];done)|fail) only [sA,↓reduceIte,reduceLT,reduceEqDiff,reduceAdd,reduceLeDiff,g2],by simp (disch:=first|assumption|omega|(simp (disch:=first|assumption|omega) only [sB,reduceAdd,reduceLT,reduceLeDiff,reduceEqDiff,reduceMul,↓reduceIte];done)|fail) only [sA,↓reduceIte,reduceLT,reduceEqDiff,reduceAdd,reduceLeDiff,g3],by simp (disch:=first|assumption|omega|(simp (disch:=first|assumption|omega) only [sB,reduceAdd,reduceLT,reduceLeDiff,reduceEqDiff,reduceMul,↓reduceIte];done)|fail) only [sA,↓reduceIte,reduceLT,reduceEqDiff,reduceAdd,reduceLeDiff,g4],by simp (disch:=first|assumption|omega|(simp (disch:=first|assumption|omega) only [sB,reduceAdd,reduceLT,reduceLeDiff,reduceEqDiff,reduceMul,↓reduceIte];done)|fail) only [sA,↓reduceIte,reduceLT,reduceEqDiff,reduceAdd,reduceLeDiff,g12],by simp (disch:=first|assumption|omega|(simp (disch:=first|assumption|omega) only [sB,reduceAdd,reduceLT,reduceLeDiff,reduceEqDiff,reduceMul,↓reduceIte];done)|fail) only [sA,↓reduceIte,reduceLT,reduceEqDiff,reduceAdd,reduceLeDiff,g13]⟩)
    (by
      rintro i e n' h' hi ⟨H,p1,d,B,g0,g1,g2,g3,g4,g12,g13,g14⟩
      have hbo:=B.okD
      obtain ⟨D',H',A⟩:=app_bldx (b:=88) B H (Nat.le_refl _) H.le (fun m x=>low_flat (flatT x)) [setT 0] (by have:=lT_len i; simp; omega)
      have A1:=fun m hm => (A m hm).1
      simp only [List.map_cons,List.map_nil,encT_eq] at A1
      have z:getO h' 48 = (Ob.row 6 [.agg [.int .i64 (setT 0).form,.int .i64 (setT 0).n,.bool (setT 0).hid,.str (setT 0).name,slD 2 encL (setT 0).levels,slD 6 encT (setT 0).kids]]):=by rw [H.get (by omega)]; exact yz
      generalize hS:setT 0=S at z A1
      unfold l3_0
      simp (disch:=first|assumption|omega|(simp (disch:=first|assumption|omega) only [sB,reduceAdd,reduceLT,reduceLeDiff,reduceEqDiff,reduceMul,↓reduceIte];done)|fail) only [sA,↓reduceIte,reduceLT,reduceEqDiff,reduceAdd,reduceLeDiff,g0,g1,g12,g13,g14,z,hbo,A1]
      exact ⟨_,_,_,_,rfl,.inl ⟨rfl,((A _ (by omega)).2.2.1).mono (by omega),by omega,_,by rw [lT_succ]; exact (A _ (by omega)).2.1,by simp (disch:=first|assumption|omega|(simp (disch:=first|assumption|omega) only [sB,reduceAdd,reduceLT,reduceLeDiff,reduceEqDiff,reduceMul,↓reduceIte];done)|fail) only [sA,↓reduceIte,reduceLT,reduceEqDiff,reduceAdd,reduceLeDiff,g0],by simp (disch:=first|assumption|omega|(simp (disch:=first|assumption|omega) only [sB,reduceAdd,reduceLT,reduceLeDiff,reduceEqDiff,reduceMul,↓reduceIte];done)|fail) only [sA,↓reduceIte,reduceLT,reduceEqDiff,reduceAdd,reduceLeDiff,g1],by simp (disch:=first|assumption|omega|(simp (disch:=first|assumption|omega) only [sB,reduceAdd,reduceLT,reduceLeDiff,reduceEqDiff,reduceMul,↓reduceIte];done)|fail) only [sA,↓reduceIte,reduceLT,reduceEqDiff,reduceAdd,reduceLeDiff,g2],by simp (disch:=first|assumption|omega|(simp (disch:=first|assumption|omega) only [sB,reduceAdd,reduceLT,reduceLeDiff,reduceEqDiff,reduceMul,↓reduceIte];done)|fail) only [sA,↓reduceIte,reduceLT,reduceEqDiff,reduceAdd,reduceLeDiff,g3],by simp (disch:=first|assumption|omega|(simp (disch:=first|assumption|omega) only [sB,reduceAdd,reduceLT,reduceLeDiff,reduceEqDiff,reduceMul,↓reduceIte];done)|fail) only [sA,↓reduceIte,reduceLT,reduceEqDiff,reduceAdd,reduceLeDiff,g4],by simp (disch:=first|assumption|omega|(simp (disch:=first|assumption|omega) only [sB,reduceAdd,reduceLT,reduceLeDiff,reduceEqDiff,reduceMul,↓reduceIte];done)|fail) only [sA,↓reduceIte,reduceLT,reduceEqDiff,reduceAdd,reduceLeDiff,g12],by simp (disch:=first|assumption|omega|(simp (disch:=first|assumption|omega) only [sB,reduceAdd,reduceLT,reduceLeDiff,reduceEqDiff,reduceMul,↓reduceIte];done)|fail) only [sA,↓reduceIte,reduceLT,reduceEqDiff,reduceAdd,reduceLeDiff],by simp (disch:=first|assumption|omega|(simp (disch:=first|assumption|omega) only [sB,reduceAdd,reduceLT,reduceLeDiff,reduceEqDiff,reduceMul,↓reduceIte];done)|fail) only [sA,↓reduceIte,reduceLT,reduceEqDiff,reduceAdd,reduceLeDiff]⟩⟩)
    ⟨HS,Nat.le_refl _,.nils,.inl ⟨rfl,rfl⟩,g0,g1,g2,g3,g4,g12,g13,g14⟩
  exact ⟨e2,n2,h2,d2,rfl,H2,p2,B2,a0,a1,a2,a3,a4,a12,a13⟩
set_option maxRecDepth 10000 in
set_option maxHeartbeats 16000000 in
theorem eLC {P I C pl rc b:Nat} {dl:D} {e:Tr} {n:Nat} {h:Hps} (S:ES P I pl rc b 0 dl n h) (hP:P≤5) (hI:I≤5) (hC:C≤6) (hp:pl≤5) (hrc:rc≤5)
    (g0:get (po 0) e = .int .i64 (P:Nat)) (g1:get (po 1) e = .int .i64 (I:Nat)) (g2:get (po 2) e = .int .i64 (C:Nat)) (g3:get (po 3) e = .int .i64 (pl:Nat)) (g4:get (po 4) e = .int .i64 (rc:Nat)) (g12:get (po 12) e = .ptr 48 0 0) (g13:get (po 13) e=dl) (g15:get (po 15) e = .ptr b 0 0) (g16:get (po 16) e = .int .i64 0)
    {r0:Re} (hr:LX (cF Try.prog) (.loop l3_3) e n h=r0) :
    ∃ e2 n2 h2,r0 = .ok (.exit 2) e2 n2 h2∧ES P I pl rc b C dl n2 h2 ∧
      get (po 0) e2 = .int .i64 (P:Nat)∧get (po 1) e2 = .int .i64 (I:Nat)∧get (po 2) e2 = .int .i64 (C:Nat)∧get (po 3) e2 = .int .i64 (pl:Nat)∧get (po 4) e2 = .int .i64 (rc:Nat)∧get (po 15) e2 = .ptr b 0 0:=by
  obtain ⟨y,e2,n2,h2,rfl,rfl,S2,a0,a1,a2,a3,a4,a15⟩:=loop_up hr C
    (fun i e n' h'=>ES P I pl rc b i dl n' h'∧get (po 0) e = .int .i64 (P:Nat)∧get (po 1) e = .int .i64 (I:Nat)∧get (po 2) e = .int .i64 (C:Nat)∧get (po 3) e = .int .i64 (pl:Nat)∧get (po 4) e = .int .i64 (rc:Nat)∧get (po 12) e = .ptr 48 0 0∧get (po 13) e=dl∧get (po 15) e = .ptr b 0 0∧get (po 16) e = .int .i64 (i:Nat))
    (fun y e n' h'=>y = .exit 2∧ES P I pl rc b C dl n' h'∧get (po 0) e = .int .i64 (P:Nat)∧get (po 1) e = .int .i64 (I:Nat)∧get (po 2) e = .int .i64 (C:Nat)∧get (po 3) e = .int .i64 (pl:Nat)∧get (po 4) e = .int .i64 (rc:Nat)∧get (po 15) e = .ptr b 0 0)
    (by
      rintro e n' h' ⟨S,g0,g1,g2,g3,g4,g12,g13,g15,g16⟩
      unfold l3_3
      simp (disch:=first|assumption|omega|(simp (disch:=first|assumption|omega) only [sB,reduceAdd,reduceLT,reduceLeDiff,reduceEqDiff,reduceMul,↓reduceIte];done)|fail) only [sA,↓reduceIte,reduceLT,reduceEqDiff,reduceAdd,reduceLeDiff,g2,g16]
      exact ⟨_,_,_,_,rfl,by simp,rfl,⟨fun k hk=>S.gd k (by omega),⟨S.le.1,by have:=S.le.2; omega⟩,S.y12,S.L,S.lb,S.y15⟩,by simp (disch:=first|assumption|omega|(simp (disch:=first|assumption|omega) only [sB,reduceAdd,reduceLT,reduceLeDiff,reduceEqDiff,reduceMul,↓reduceIte];done)|fail) only [sA,↓reduceIte,reduceLT,reduceEqDiff,reduceAdd,reduceLeDiff,g0],by simp (disch:=first|assumption|omega|(simp (disch:=first|assumption|omega) only [sB,reduceAdd,reduceLT,reduceLeDiff,reduceEqDiff,reduceMul,↓reduceIte];done)|fail) only [sA,↓reduceIte,reduceLT,reduceEqDiff,reduceAdd,reduceLeDiff,g1],by simp (disch:=first|assumption|omega|(simp (disch:=first|assumption|omega) only [sB,reduceAdd,reduceLT,reduceLeDiff,reduceEqDiff,reduceMul,↓reduceIte];done)|fail) only [sA,↓reduceIte,reduceLT,reduceEqDiff,reduceAdd,reduceLeDiff,g2],by simp (disch:=first|assumption|omega|(simp (disch:=first|assumption|omega) only [sB,reduceAdd,reduceLT,reduceLeDiff,reduceEqDiff,reduceMul,↓reduceIte];done)|fail) only [sA,↓reduceIte,reduceLT,reduceEqDiff,reduceAdd,reduceLeDiff,g3],by simp (disch:=first|assumption|omega|(simp (disch:=first|assumption|omega) only [sB,reduceAdd,reduceLT,reduceLeDiff,reduceEqDiff,reduceMul,↓reduceIte];done)|fail) only [sA,↓reduceIte,reduceLT,reduceEqDiff,reduceAdd,reduceLeDiff,g4],by simp (disch:=first|assumption|omega|(simp (disch:=first|assumption|omega) only [sB,reduceAdd,reduceLT,reduceLeDiff,reduceEqDiff,reduceMul,↓reduceIte];done)|fail) only [sA,↓reduceIte,reduceLT,reduceEqDiff,reduceAdd,reduceLeDiff,g15]⟩)
    (by
      rintro i e n' h' hi ⟨S,g0,g1,g2,g3,g4,g12,g13,g15,g16⟩
      obtain ⟨e3,n3,h3,r3,S3,p3,a0,a1,a2,a3,a4,a12,a13,a15,a16⟩:=eBody S hi hP hI hC hp hrc g0 g1 g2 g3 g4 g12 g13 g15 g16
      exact ⟨_,_,_,_,r3,.inl ⟨rfl,S3,a0,a1,a2,a3,a4,a12,a13,a15,a16⟩⟩)
    ⟨S,g0,g1,g2,g3,g4,g12,g13,g15,g16⟩
  exact ⟨e2,n2,h2,rfl,S2,a0,a1,a2,a3,a4,a15⟩
set_option maxRecDepth 10000 in
set_option maxHeartbeats 16000000 in
theorem qCounts {P I C pl rc cT cC:Nat} (hP:P≤5) (hI:I≤5) (hC:1≤C∧C≤6) (hp:pl≤5) (hrc:rc≤5) {W:Sl Tm} {R:Nat→Bool} {MT:Nat→Tm}
    (K:Fgd (faT P I C pl rc) (pl+rc) cT cC (lT (P+I)) (setT 1) (ctT P I pl rc) (atT P ((pl+rc:Nat):Int) I) (arT P I pl rc) W R MT)
    (h1:Sm (resE (faT P I C pl rc) MT)) (h2:saneT (resE (faT P I C pl rc) MT).abs=true) (h3:checkT (resE (faT P I C pl rc) MT).abs=0) (h4:saneT (MT (C - 1)).abs=true) (h5:checkT (MT (C - 1)).abs=0)
    (hV:∀ x,x ∈ ((Sl.app (arT P I pl rc)).cut (faT P I C pl rc).Ps.el.length (arT P I pl rc).length).el→Sm x) (hW:W.el.length=I∧∀ x,x∈W.el→Sm x)
    (n1:formedT (copyT (resE (faT P I C pl rc) MT)).abs=true∧sizeT (copyT (resE (faT P I C pl rc) MT)).abs≤100000∧npi (copyT (resE (faT P I C pl rc) MT))=P+1+C+I+1)
    (n2:formedT (copyT (MT (C - 1))).abs=true∧sizeT (copyT (MT (C - 1))).abs≤100000∧npi (copyT (MT (C - 1)))=pl+2*rc) (n3 : (recs R (pl+rc)).length=rc)
    (n4 : ((Sl.app (arT P I pl rc)).cut (faT P I C pl rc).Ps.el.length (arT P I pl rc).length).el.length=pl+rc) :
    ∃ n' h',callFn (LX (cF Try.prog)) 0 [] [.int .i64 (P:Nat),.int .i64 (I:Nat),.int .i64 (C:Nat),.int .i64 (pl:Nat),.int .i64 (rc:Nat)] (cF Try.prog 3) = .ok (.bool true) n' h':=by
  have q1:¬ ((P:Nat):Int) < 0:=by omega
  have q2:¬ ((P:Nat):Int) > 5:=by omega
  have q3:¬ ((I:Nat):Int) < 0:=by omega
  have q4:¬ ((I:Nat):Int) > 5:=by omega
  have q5:¬ ((C:Nat):Int) < 1:=by omega
  have q6:¬ ((C:Nat):Int) > 6:=by omega
  have q7:¬ ((pl:Nat):Int) < 0:=by omega
  have q8:¬ ((pl:Nat):Int) > 5:=by omega
  have q9:¬ ((rc:Nat):Int) < 0:=by omega
  have q10:¬ ((rc:Nat):Int) > 5:=by omega
  have w1:=qAlive
  have w2:∀ m h,Gd m h→callFn (LX (cF Try.prog)) m h [.int .i64 0] (cF Try.prog 5) = .ok (D.agg [.int .i64 (setT 0).form,.int .i64 (setT 0).n,.bool (setT 0).hid,.str (setT 0).name,slD 2 encL (setT 0).levels,slD 6 encT (setT 0).kids]) m h:=fun m h hg=>by rw [← encT_eq]; exact qSet 0 m h hg
  have w3:∀ m h,Gd m h→callFn (LX (cF Try.prog)) m h [.int .i64 1] (cF Try.prog 5) = .ok (D.agg [.int .i64 (setT 1).form,.int .i64 (setT 1).n,.bool (setT 1).hid,.str (setT 1).name,slD 2 encL (setT 1).levels,slD 6 encT (setT 1).kids]) m h:=fun m h hg=>by rw [← encT_eq]; exact qSet 1 m h hg
  have hgn:GoodAt 0 []:=good_nil
  have HS:Hp 49 [(48,(Ob.row 6 [.agg [.int .i64 (setT 0).form,.int .i64 (setT 0).n,.bool (setT 0).hid,.str (setT 0).name,slD 2 encL (setT 0).levels,slD 6 encT (setT 0).kids]]))] 52 [(48,(Ob.row 6 [.agg [.int .i64 (setT 0).form,.int .i64 (setT 0).n,.bool (setT 0).hid,.str (setT 0).name,slD 2 encL (setT 0).levels,slD 6 encT (setT 0).kids]]))] := (Hp.start (n0:=49) (h0:=[(48,(Ob.row 6 [.agg [.int .i64 (setT 0).form,.int .i64 (setT 0).n,.bool (setT 0).hid,.str (setT 0).name,slD 2 encL (setT 0).levels,slD 6 encT (setT 0).kids]]))]) (fun k hk=>good_cons.2 ⟨by omega,lowO_one (low_flat (flatTA _)),good_nil⟩)).mono (by omega)
  have yz:getO [(48,(Ob.row 6 [.agg [.int .i64 (setT 0).form,.int .i64 (setT 0).n,.bool (setT 0).hid,.str (setT 0).name,slD 2 encL (setT 0).levels,slD 6 encT (setT 0).kids]]))] 48 = (Ob.row 6 [.agg [.int .i64 (setT 0).form,.int .i64 (setT 0).n,.bool (setT 0).hid,.str (setT 0).name,slD 2 encL (setT 0).levels,slD 6 encT (setT 0).kids]]):=getO_hd
  generalize hzz : ([(48,(Ob.row 6 [.agg [.int .i64 (setT 0).form,.int .i64 (setT 0).n,.bool (setT 0).hid,.str (setT 0).name,slD 2 encL (setT 0).levels,slD 6 encT (setT 0).kids]]))]:Hps)=hz at HS yz
  generalize hS:setT 0=S at w2 hzz
  rw [f3_eq]; unfold c3; rw [callFn_eq (by rfl)]
  simp (disch:=first|assumption|omega|(simp (disch:=first|assumption|omega) only [sB,reduceAdd,reduceLT,reduceLeDiff,reduceEqDiff,reduceMul,↓reduceIte,gd_nil];done)|fail) only [sA,↓reduceIte,reduceLT,reduceEqDiff,reduceAdd,reduceLeDiff,w1,w2,q1,q2,q3,q4,q5,q6,q7,q8,q9,q10,gd_nil]
  rw [hzz]
  generalize hr:LX (cF Try.prog) (.loop l3_0) _ _ _=r0
  obtain ⟨e1,m1,h1',dl,rfl,H1,p1,B1,a0,a1,a2,a3,a4,a12,a13⟩:=eL0 (P:=P) (I:=I) (C:=C) (pl:=pl) (rc:=rc) HS yz hP hI (by simp (disch:=first|assumption|omega|(simp (disch:=first|assumption|omega) only [sB,reduceAdd,reduceLT,reduceLeDiff,reduceEqDiff,reduceMul,↓reduceIte];done)|fail) only [sA,↓reduceIte,reduceLT,reduceEqDiff,reduceAdd,reduceLeDiff]) (by simp (disch:=first|assumption|omega|(simp (disch:=first|assumption|omega) only [sB,reduceAdd,reduceLT,reduceLeDiff,reduceEqDiff,reduceMul,↓reduceIte];done)|fail) only [sA,↓reduceIte,reduceLT,reduceEqDiff,reduceAdd,reduceLeDiff]) (by simp (disch:=first|assumption|omega|(simp (disch:=first|assumption|omega) only [sB,reduceAdd,reduceLT,reduceLeDiff,reduceEqDiff,reduceMul,↓reduceIte];done)|fail) only [sA,↓reduceIte,reduceLT,reduceEqDiff,reduceAdd,reduceLeDiff]) (by simp (disch:=first|assumption|omega|(simp (disch:=first|assumption|omega) only [sB,reduceAdd,reduceLT,reduceLeDiff,reduceEqDiff,reduceMul,↓reduceIte];done)|fail) only [sA,↓reduceIte,reduceLT,reduceEqDiff,reduceAdd,reduceLeDiff]) (by simp (disch:=first|assumption|omega|(simp (disch:=first|assumption|omega) only [sB,reduceAdd,reduceLT,reduceLeDiff,reduceEqDiff,reduceMul,↓reduceIte];done)|fail) only [sA,↓reduceIte,reduceLT,reduceEqDiff,reduceAdd,reduceLeDiff]) (by simp (disch:=first|assumption|omega|(simp (disch:=first|assumption|omega) only [sB,reduceAdd,reduceLT,reduceLeDiff,reduceEqDiff,reduceMul,↓reduceIte];done)|fail) only [sA,↓reduceIte,reduceLT,reduceEqDiff,reduceAdd,reduceLeDiff]) (by simp (disch:=first|assumption|omega|(simp (disch:=first|assumption|omega) only [sB,reduceAdd,reduceLT,reduceLeDiff,reduceEqDiff,reduceMul,↓reduceIte];done)|fail) only [sA,↓reduceIte,reduceLT,reduceEqDiff,reduceAdd,reduceLeDiff]) (by simp (disch:=first|assumption|omega|(simp (disch:=first|assumption|omega) only [sB,reduceAdd,reduceLT,reduceLeDiff,reduceEqDiff,reduceMul,↓reduceIte];done)|fail) only [sA,↓reduceIte,reduceLT,reduceEqDiff,reduceAdd,reduceLeDiff]) hr
  clear hr hzz
  obtain ⟨ad,SB⟩:=B1.sv (H1.good m1 (Nat.le_refl _)) encA
  have w4:∀ m,m1≤m→callFn (LX (cF Try.prog)) m h1' [.int .i64 3,dl,.nils,(D.agg [.int .i64 (setT 1).form,.int .i64 (setT 1).n,.bool (setT 1).hid,.str (setT 1).name,slD 2 encL (setT 1).levels,slD 6 encT (setT 1).kids])] (cF Try.prog 6) = .ok (D.agg [.int .i64 (typT P I).form,.int .i64 (typT P I).n,.bool (typT P I).hid,.str (typT P I).name,slD 2 encL (typT P I).levels,slD 6 encT (typT P I).kids]) m h1':=fun m hm=>by
    rw [← encT_eq (typT P I)]
    exact qWrap (setT 1) (by rw [lT_len]; omega) m h1' (fun k hk=>H1.good k (by omega)) (SB.mono (Hp.start H1.good) hm)
  have hG1:∀ m,m1≤m→Gd m h1':=fun m hm k hk=>H1.good k (by omega)
  have okl:=B1.okD
  generalize setT 1=S1 at w3 w4
  generalize hTY:typT P I=TY at w4
  simp (disch:=first|assumption|omega|(simp (disch:=first|assumption|omega) only [sB,reduceAdd,reduceLT,reduceLeDiff,reduceEqDiff,reduceMul,↓reduceIte,hG1];done)|fail) only [sA,↓reduceIte,reduceLT,reduceEqDiff,reduceAdd,reduceLeDiff,a0,a13,okl,w3,w4,hG1]
  have ES0:ES P I pl rc (m1+7) 0 dl (m1+10) ((m1+7,.row 17 [(D.agg [.int .i64 3,.str [68],.int .i64 0,.int .i64 (typT P I).form,.int .i64 (typT P I).n,.bool (typT P I).hid,.str (typT P I).name,slD 2 encL (typT P I).levels,slD 6 encT (typT P I).kids,.int .i64 0,.int .i64 0,.bool false,.str [],.nils,.nils,.int .i64 ((P):Nat),.nils])])::h1'):=by
    have lrow:∀ r,dl = .ms 6 r 0 (lT (P+I)).length false→r < m1:=fun r e=>by
      rcases B1 with ⟨_,e2⟩ | ⟨r2,_,_,e2,g⟩
      · rw [e2] at e; cases e
      · rw [e2] at e; injection e with _ e _ _ _; subst e; exact getO_low (H1.good m1 (Nat.le_refl _)) (by rw [g]; simp)
    refine ⟨fun k hk=>good_cons.2 ⟨by omega,lowFG rfl,H1.good k (by omega)⟩,⟨by omega,by omega⟩,?_,B1.keep fun r e=>?_,fun r e=>?_,.nils,getO_hd,.inl ⟨rfl,rfl⟩⟩
    · rw [getO_tl (by omega),H1.get (by omega)]; exact yz
    · rw [getO_tl (by have:=lrow r e; omega)]
    · have:=lrow r (by rw [lT_len]; exact e); omega
  rw [← hTY]
  generalize hr:LX (cF Try.prog) (.loop l3_3) _ _ _=r0
  obtain ⟨e5,m5,h5',rfl,S5,b0,b1,b2,b3,b4,b15⟩:=eLC (P:=P) (I:=I) (C:=C) (pl:=pl) (rc:=rc) ES0 hP hI hC.2 hp hrc (by simp (disch:=first|assumption|omega|(simp (disch:=first|assumption|omega) only [sB,reduceAdd,reduceLT,reduceLeDiff,reduceEqDiff,reduceMul,↓reduceIte];done)|fail) only [sA,↓reduceIte,reduceLT,reduceEqDiff,reduceAdd,reduceLeDiff,a0]) (by simp (disch:=first|assumption|omega|(simp (disch:=first|assumption|omega) only [sB,reduceAdd,reduceLT,reduceLeDiff,reduceEqDiff,reduceMul,↓reduceIte];done)|fail) only [sA,↓reduceIte,reduceLT,reduceEqDiff,reduceAdd,reduceLeDiff,a1]) (by simp (disch:=first|assumption|omega|(simp (disch:=first|assumption|omega) only [sB,reduceAdd,reduceLT,reduceLeDiff,reduceEqDiff,reduceMul,↓reduceIte];done)|fail) only [sA,↓reduceIte,reduceLT,reduceEqDiff,reduceAdd,reduceLeDiff,a2]) (by simp (disch:=first|assumption|omega|(simp (disch:=first|assumption|omega) only [sB,reduceAdd,reduceLT,reduceLeDiff,reduceEqDiff,reduceMul,↓reduceIte];done)|fail) only [sA,↓reduceIte,reduceLT,reduceEqDiff,reduceAdd,reduceLeDiff,a3]) (by simp (disch:=first|assumption|omega|(simp (disch:=first|assumption|omega) only [sB,reduceAdd,reduceLT,reduceLeDiff,reduceEqDiff,reduceMul,↓reduceIte];done)|fail) only [sA,↓reduceIte,reduceLT,reduceEqDiff,reduceAdd,reduceLeDiff,a4]) (by simp (disch:=first|assumption|omega|(simp (disch:=first|assumption|omega) only [sB,reduceAdd,reduceLT,reduceLeDiff,reduceEqDiff,reduceMul,↓reduceIte];done)|fail) only [sA,↓reduceIte,reduceLT,reduceEqDiff,reduceAdd,reduceLeDiff,a12]) (by simp (disch:=first|assumption|omega|(simp (disch:=first|assumption|omega) only [sB,reduceAdd,reduceLT,reduceLeDiff,reduceEqDiff,reduceMul,↓reduceIte];done)|fail) only [sA,↓reduceIte,reduceLT,reduceEqDiff,reduceAdd,reduceLeDiff,a13]) (by simp (disch:=first|assumption|omega|(simp (disch:=first|assumption|omega) only [sB,reduceAdd,reduceLT,reduceLeDiff,reduceEqDiff,reduceMul,↓reduceIte];done)|fail) only [sA,↓reduceIte,reduceLT,reduceEqDiff,reduceAdd,reduceLeDiff]) (by simp (disch:=first|assumption|omega|(simp (disch:=first|assumption|omega) only [sB,reduceAdd,reduceLT,reduceLeDiff,reduceEqDiff,reduceMul,↓reduceIte];done)|fail) only [sA,↓reduceIte,reduceLT,reduceEqDiff,reduceAdd,reduceLeDiff]) hr
  clear hr ES0
  obtain ⟨dC,y5,BC⟩:=S5.y15
  have hb5:=S5.le
  rcases BC with ⟨e,_⟩ | ⟨r,_,hrb,rfl,yr⟩
  · have:=congrArg List.length e; rw [csT_len] at this; simp at this; omega
  have hr5:r < m5:=getO_low (S5.gd m5 (Nat.le_refl _)) (by rw [yr]; simp)
  have lc : (csT P I pl rc C).length=C:=csT_len
  have lc' : (faT P I C pl rc).cs.length=C:=csT_len
  -- the three answers
  obtain ⟨m6,h6',x6,p6,gd6,k6⟩:=pElimType K (n:=m5+2) (r:=r) (h:=h5') (fun k hk=>S5.gd k (by omega)) (by omega) yr h1 h2 h3
  replace x6:callFn (LX (cF Try.prog)) (m5+2) h5' [(D.agg [.int .i64 3,.str [68],.int .i64 0,.int .i64 (typT P I).form,.int .i64 (typT P I).n,.bool (typT P I).hid,.str (typT P I).name,slD 2 encL (typT P I).levels,slD 6 encT (typT P I).kids,.int .i64 0,.int .i64 0,.bool false,.str [],.nils,.nils,.int .i64 ((P):Nat),.ms 7 r 0 (csT P I pl rc C).length false])] (cF Try.prog 9) = .ok (.tup [encT (copyT (resE (faT P I C pl rc) MT)),.int .i64 0]) m6 h6':=x6
  generalize hU6:copyT (resE (faT P I C pl rc) MT)=U6 at x6 n1
  obtain ⟨m7,h7',x7,p7,gd7,k7⟩:=pElimMethod K (n:=m6+11) (r:=r) (k:=C - 1) (h := (m6+4,(Ob.row 6 [.agg [.int .i64 (U6).form,.int .i64 (U6).n,.bool (U6).hid,.str (U6).name,slD 2 encL (U6).levels,slD 6 encT (U6).kids]]))::h6') (fun k hk=>good_cons.2 ⟨by omega,lowO_one (low_flat (flatTA _)),gd6 k (by omega)⟩) (by omega) (by rw [getO_tl (by omega),k6 r (by omega)]; exact yr) (by rw [lc']; omega) h4 h5
  replace x7:callFn (LX (cF Try.prog)) (m6+11) ((m6+4,(Ob.row 6 [.agg [.int .i64 (U6).form,.int .i64 (U6).n,.bool (U6).hid,.str (U6).name,slD 2 encL (U6).levels,slD 6 encT (U6).kids]]))::h6') [(D.agg [.int .i64 3,.str [68],.int .i64 0,.int .i64 (typT P I).form,.int .i64 (typT P I).n,.bool (typT P I).hid,.str (typT P I).name,slD 2 encL (typT P I).levels,slD 6 encT (typT P I).kids,.int .i64 0,.int .i64 0,.bool false,.str [],.nils,.nils,.int .i64 ((P):Nat),.ms 7 r 0 (csT P I pl rc C).length false]),.int .i64 ((C - 1:Nat):Int)] (cF Try.prog 10) = .ok (.tup [encT (copyT (MT (C - 1))),.int .i64 0]) m7 h7':=x7
  rw [show ((C - 1:Nat):Int) = (C:Nat) - 1 by omega] at x7
  generalize hU7:copyT (MT (C - 1))=U7 at x7 n2
  have y6:getO h6' (m1+7) = .row 17 [(D.agg [.int .i64 3,.str [68],.int .i64 0,.int .i64 (typT P I).form,.int .i64 (typT P I).n,.bool (typT P I).hid,.str (typT P I).name,slD 2 encL (typT P I).levels,slD 6 encT (typT P I).kids,.int .i64 0,.int .i64 0,.bool false,.str [],.nils,.nils,.int .i64 ((P):Nat),.ms 7 r 0 (csT P I pl rc C).length false])]:=by rw [k6 _ (by omega)]; exact y5
  have y7:getO h7' (m1+7) = .row 17 [(D.agg [.int .i64 3,.str [68],.int .i64 0,.int .i64 (typT P I).form,.int .i64 (typT P I).n,.bool (typT P I).hid,.str (typT P I).name,slD 2 encL (typT P I).levels,slD 6 encT (typT P I).kids,.int .i64 0,.int .i64 0,.bool false,.str [],.nils,.nils,.int .i64 ((P):Nat),.ms 7 r 0 (csT P I pl rc C).length false])]:=by rw [k7 _ (by omega),getO_tl (by omega)]; exact y6
  have lar : (arT P I pl rc).length≤1000000:=by unfold arT; rw [List.length_append,List.length_append,lT_len,lT_len,recT_len]; omega
  obtain ⟨d8,m8,h8',x8,ld8,od8,p8,gd8,k8⟩:=pElimCtor K (n:=m7+9) (r:=r) (k:=0) (h := (m7+4,(Ob.row 6 [.agg [.int .i64 (U7).form,.int .i64 (U7).n,.bool (U7).hid,.str (U7).name,slD 2 encL (U7).levels,slD 6 encT (U7).kids]]))::h7') (fun k hk=>good_cons.2 ⟨by omega,lowO_one (low_flat (flatTA _)),gd7 k (by omega)⟩) (by omega) (by rw [getO_tl (by omega),k7 r (by omega),getO_tl (by omega),k6 r (by omega)]; exact yr) (by rw [lc']; omega) ⟨lar,hV⟩ ⟨by rw [hW.1]; omega,hW.2⟩
  rw [n3] at ld8
  have lv : (Sl.app (((Sl.app (arT P I pl rc)).cut (faT P I C pl rc).Ps.el.length (arT P I pl rc).length).el.map copyT)).el.length=pl+rc:=by
    show (List.map copyT _).length=_
    rw [List.length_map]; exact n4
  have lw : (Sl.app (W.el.map copyT)).el.length=I:=by
    show (List.map copyT _).length=_
    rw [List.length_map]; exact hW.1
  generalize Sl.app (((Sl.app (arT P I pl rc)).cut (faT P I C pl rc).Ps.el.length (arT P I pl rc).length).el.map copyT)=SV at x8 lv
  generalize Sl.app (W.el.map copyT)=SW at x8 lw
  replace x8:callFn (LX (cF Try.prog)) (m7+9) ((m7+4,(Ob.row 6 [.agg [.int .i64 (U7).form,.int .i64 (U7).n,.bool (U7).hid,.str (U7).name,slD 2 encL (U7).levels,slD 6 encT (U7).kids]]))::h7') [(D.agg [.int .i64 3,.str [68],.int .i64 0,.int .i64 (typT P I).form,.int .i64 (typT P I).n,.bool (typT P I).hid,.str (typT P I).name,slD 2 encL (typT P I).levels,slD 6 encT (typT P I).kids,.int .i64 0,.int .i64 0,.bool false,.str [],.nils,.nils,.int .i64 ((P):Nat),.ms 7 r 0 (csT P I pl rc C).length false]),.int .i64 0] (cF Try.prog 11) = .ok (.tup [slD 6 encT SV,d8,slD 6 encT SW,.int .i64 0]) m8 h8':=x8
  have z6:getO h8' (m6+4) = (Ob.row 6 [.agg [.int .i64 (U6).form,.int .i64 (U6).n,.bool (U6).hid,.str (U6).name,slD 2 encL (U6).levels,slD 6 encT (U6).kids]]):=by rw [k8 _ (by omega),getO_tl (by omega),k7 _ (by omega),getO_hd]
  have z7:getO h8' (m7+4) = (Ob.row 6 [.agg [.int .i64 (U7).form,.int .i64 (U7).n,.bool (U7).hid,.str (U7).name,slD 2 encL (U7).levels,slD 6 encT (U7).kids]]):=by rw [k8 _ (by omega),getO_hd]
  have w5:=qNum
  have w6:∀ m h,Gd m h→callFn (LX (cF Try.prog)) m h [(D.agg [.int .i64 (U6).form,.int .i64 (U6).n,.bool (U6).hid,.str (U6).name,slD 2 encL (U6).levels,slD 6 encT (U6).kids])] (cF Try.prog 13) = .ok (.int .i64 ((P+1+C+I+1:Nat):Int)) m h:=fun m h hg=>by
    have:=pPisN U6 n1.1 n1.2.1 m h hg
    rw [n1.2.2] at this; exact this
  have w7:∀ m h,Gd m h→callFn (LX (cF Try.prog)) m h [(D.agg [.int .i64 (U7).form,.int .i64 (U7).n,.bool (U7).hid,.str (U7).name,slD 2 encL (U7).levels,slD 6 encT (U7).kids])] (cF Try.prog 13) = .ok (.int .i64 ((pl+2*rc:Nat):Int)) m h:=fun m h hg=>by
    have:=pPisN U7 n2.1 n2.2.1 m h hg
    rw [n2.2.2] at this; exact this
  have e1 : ((P+1+C+I+1:Nat):Int) = (P:Int)+1+C+I+1:=by omega
  have e2 : ((pl+2*rc:Nat):Int) = (pl:Int)+2*rc:=by omega
  have mul:binD .mul (.int .i64 2) (.int .i64 (rc:Nat)) = .int .i64 ((2*rc:Nat):Int):=by
    show D.int .i64 (wr .i64 (2 * (rc:Int)))=_
    rw [wr_in (by omega) (by omega)]; congr 1
  have hG8:∀ m,m8≤m→Gd m h8':=fun m hm k hk=>gd8 k (by omega)
  have l1:∀ m g,lenD m g .slice (slD 6 encT SV) = .ok (.int .i64 ((pl+rc:Nat):Int)) m g:=fun m g=>by rw [len_slD,lv]
  have l2:∀ m g,lenD m g .slice (slD 6 encT SW) = .ok (.int .i64 (I:Nat)) m g:=fun m g=>by rw [len_slD,lw]
  generalize typT P I=TY at *
  rw [encT_eq] at x6 x7
  simp (disch:=first|assumption|omega|(simp (disch:=first|assumption|omega) only [sB,reduceAdd,reduceLT,reduceLeDiff,reduceEqDiff,reduceMul,↓reduceIte,getO_tl,hG8];done)|fail) only [sA,↓reduceIte,reduceLT,reduceEqDiff,reduceAdd,reduceLeDiff,b0,b1,b2,b3,b4,b15,y5,x6,y6,x7,y7,x8,od8,ld8,l1,l2,z6,z7,w5,w6,w7,mul,getO_tl,hG8]
  exact fin_bool
end Go.Proofs.Ytpbpmpabndgeeaa
