/- The law's walk: the family is put together. -/
import Derived.Test.YtpbpmpabndgeeaaET
import Derived.Test.YtpbpmpabndgeeaaEK
set_option linter.unusedSimpArgs false
set_option linter.unusedVariables false
namespace Go.Proofs.Ytpbpmpabndgeeaa
open Go
open Nat (reduceAdd reduceLT reduceLeDiff reduceEqDiff reduceMul)

def lT (k:Nat):List Tm:=List.replicate k (setT 0)
theorem lT_len (k:Nat) : (lT k).length=k:=by simp [lT]
theorem lT_succ (k:Nat):lT (k+1)=lT k++[setT 0]:=List.replicate_succ'
def typT (P I:Nat):Tm:=pisT (lT (P+I)) (setT 1)
def recT (P I pl:Nat) (k:Nat):List Tm := (List.range k).map fun (i:Nat)=>atT P ((pl+i:Nat):Int) I
theorem recT_len {P I pl k:Nat} : (recT P I pl k).length=k:=by simp [recT]
theorem recT_succ {P I pl k:Nat}:recT P I pl (k+1)=recT P I pl k++[atT P ((pl+k:Nat):Int) I]:=by unfold recT; rw [List.range_succ,List.map_append]; rfl
def arT (P I pl rc:Nat):List Tm:=lT P++lT pl++recT P I pl rc
def ctT (P I pl rc:Nat):Tm:=pisT (arT P I pl rc) (atT P ((pl+rc:Nat):Int) I)
def csT (P I pl rc k:Nat):List (List Nat×Tm) := (List.range k).map fun (i:Nat) => ([99,48+i],ctT P I pl rc)
theorem csT_len {P I pl rc k:Nat} : (csT P I pl rc k).length=k:=by simp [csT]
theorem csT_succ {P I pl rc k:Nat}:csT P I pl rc (k+1)=csT P I pl rc k++[([99,48+k],ctT P I pl rc)]:=by unfold csT; rw [List.range_succ,List.map_append]; rfl
set_option maxRecDepth 10000 in
set_option maxHeartbeats 16000000 in
theorem eL1 {P I C pl rc nb n:Nat} {X:List Tm} {d:D} {e:Tr} {h:Hps} (hg:Gd n h) (B:Bld 6 encT nb X h d) (hb:49≤nb∧nb≤n) (hX:X.length≤100) (y12:getO h 48 = (Ob.row 6 [.agg [.int .i64 (setT 0).form,.int .i64 (setT 0).n,.bool (setT 0).hid,.str (setT 0).name,slD 2 encL (setT 0).levels,slD 6 encT (setT 0).kids]])) (hp:pl≤5) {h0:Hps} (H0:Hp nb h0 n h)
    (g0:get (po 0) e = .int .i64 (P:Nat)) (g1:get (po 1) e = .int .i64 (I:Nat)) (g2:get (po 2) e = .int .i64 (C:Nat)) (g3:get (po 3) e = .int .i64 (pl:Nat)) (g4:get (po 4) e = .int .i64 (rc:Nat)) (g12:get (po 12) e = .ptr 48 0 0) (g17:get (po 17) e=d) (g18:get (po 18) e = .int .i64 0)
    {dl d15:D} {k:Int} (g13:get (po 13) e=dl) (g15:get (po 15) e=d15) (g16:get (po 16) e = .int .i64 k) {r0:Re} (hr:LX (cF Try.prog) (.loop l3_1) e n h=r0) :
    ∃ e2 n2 h2 d2,r0 = .ok (.exit 4) e2 n2 h2∧Hp nb h0 n2 h2∧n≤n2∧Bld 6 encT nb (X++lT pl) h2 d2 ∧
      get (po 0) e2 = .int .i64 (P:Nat)∧get (po 1) e2 = .int .i64 (I:Nat)∧get (po 2) e2 = .int .i64 (C:Nat)∧get (po 3) e2 = .int .i64 (pl:Nat)∧get (po 4) e2 = .int .i64 (rc:Nat)∧get (po 12) e2 = .ptr 48 0 0∧get (po 17) e2=d2∧get (po 13) e2=dl∧get (po 15) e2=d15∧get (po 16) e2 = .int .i64 k:=by
  obtain ⟨y,e2,n2,h2,rfl,rfl,H2,p2,d2,B2,a0,a1,a2,a3,a4,a12,a17,a13,a15,a16⟩:=loop_up hr pl
    (fun i e n' h'=>Hp nb h0 n' h'∧n≤n'∧getO h' 48 = (Ob.row 6 [.agg [.int .i64 (setT 0).form,.int .i64 (setT 0).n,.bool (setT 0).hid,.str (setT 0).name,slD 2 encL (setT 0).levels,slD 6 encT (setT 0).kids]])∧∃ d,Bld 6 encT nb (X++lT i) h' d∧get (po 0) e = .int .i64 (P:Nat)∧get (po 1) e = .int .i64 (I:Nat)∧get (po 2) e = .int .i64 (C:Nat)∧get (po 3) e = .int .i64 (pl:Nat)∧get (po 4) e = .int .i64 (rc:Nat)∧get (po 12) e = .ptr 48 0 0∧get (po 17) e=d∧get (po 13) e=dl∧get (po 15) e=d15∧get (po 16) e = .int .i64 k∧get (po 18) e = .int .i64 (i:Nat))
    (fun y e n' h'=>y = .exit 4∧Hp nb h0 n' h'∧n≤n'∧∃ d,Bld 6 encT nb (X++lT pl) h' d∧get (po 0) e = .int .i64 (P:Nat)∧get (po 1) e = .int .i64 (I:Nat)∧get (po 2) e = .int .i64 (C:Nat)∧get (po 3) e = .int .i64 (pl:Nat)∧get (po 4) e = .int .i64 (rc:Nat)∧get (po 12) e = .ptr 48 0 0∧get (po 17) e=d∧get (po 13) e=dl∧get (po 15) e=d15∧get (po 16) e = .int .i64 k)
    (by
      rintro e n' h' ⟨H,p1,z,d,B,g0,g1,g2,g3,g4,g12,g17,g13,g15,g16,g18⟩
      unfold l3_1
      simp (disch:=first|assumption|omega|(simp (disch:=first|assumption|omega) only [sB,reduceAdd,reduceLT,reduceLeDiff,reduceEqDiff,reduceMul,↓reduceIte];done)|fail) only [sA,↓reduceIte,reduceLT,reduceEqDiff,reduceAdd,reduceLeDiff,g3,g18]
      exact ⟨_,_,_,_,rfl,by simp,rfl,H.mono (by omega),by omega,d,B,by simp +decide only [sG,g0],by simp +decide only [sG,g1],by simp +decide only [sG,g2],by simp +decide only [sG,g3],by simp +decide only [sG,g4],by simp +decide only [sG,g12],by simp +decide only [sG,g17],by simp +decide only [sG,g13],by simp +decide only [sG,g15],by simp +decide only [sG,g16]⟩)
    (by
      rintro i e n' h' hi ⟨H,p1,z,d,B,g0,g1,g2,g3,g4,g12,g17,g13,g15,g16,g18⟩
      have hbo:=B.okD
      obtain ⟨D',H',A⟩:=app_bldx (b:=88) B H (Nat.le_refl _) H.le (fun m x=>low_flat (flatT x)) [setT 0] (by have:=lT_len i; simp; omega)
      have A1:=fun m hm => (A m hm).1
      simp only [List.map_cons,List.map_nil,encT_eq] at A1
      have zz:∀ m,n'≤m→getO (H' m) 48 = (Ob.row 6 [.agg [.int .i64 (setT 0).form,.int .i64 (setT 0).n,.bool (setT 0).hid,.str (setT 0).name,slD 2 encL (setT 0).levels,slD 6 encT (setT 0).kids]]):=fun m hm=>by rw [(A m hm).2.2.2.1 48 (by omega)]; exact z
      generalize hS:setT 0=S at z A1 zz
      unfold l3_1
      simp (disch:=first|assumption|omega|(simp (disch:=first|assumption|omega) only [sB,reduceAdd,reduceLT,reduceLeDiff,reduceEqDiff,reduceMul,↓reduceIte];done)|fail) only [sA,↓reduceIte,reduceLT,reduceEqDiff,reduceAdd,reduceLeDiff,g3,g12,g17,g18,z,hbo,A1]
      exact ⟨_,_,_,_,rfl,.inl ⟨rfl,((A _ (by omega)).2.2.1).mono (by omega),by omega,zz _ (by omega),_,by rw [lT_succ,← List.append_assoc]; exact (A _ (by omega)).2.1,by simp +decide only [sG,g0],by simp +decide only [sG,g1],by simp +decide only [sG,g2],by simp +decide only [sG,g3],by simp +decide only [sG,g4],by simp +decide only [sG,g12],by simp +decide only [sG],by simp +decide only [sG,g13],by simp +decide only [sG,g15],by simp +decide only [sG,g16],by simp +decide only [sG]⟩⟩)
    ⟨H0,Nat.le_refl _,y12,d,by rw [show lT 0=[] from rfl,List.append_nil]; exact B,g0,g1,g2,g3,g4,g12,g17,g13,g15,g16,g18⟩
  exact ⟨e2,n2,h2,d2,rfl,H2,p2,B2,a0,a1,a2,a3,a4,a12,a17,a13,a15,a16⟩
set_option maxRecDepth 10000 in
set_option maxHeartbeats 16000000 in
theorem eL2 {P I C pl rc nb n:Nat} {X:List Tm} {d:D} {e:Tr} {h:Hps} (B:Bld 6 encT nb X h d) (hb:49≤nb∧nb≤n) (hX:X.length≤100) (hP:P≤5) (hI:I≤5) (hp:pl≤5) (hrc:rc≤5) {h0:Hps} (H0:Hp nb h0 n h)
    (g0:get (po 0) e = .int .i64 (P:Nat)) (g1:get (po 1) e = .int .i64 (I:Nat)) (g2:get (po 2) e = .int .i64 (C:Nat)) (g3:get (po 3) e = .int .i64 (pl:Nat)) (g4:get (po 4) e = .int .i64 (rc:Nat)) (g12:get (po 12) e = .ptr 48 0 0) (g17:get (po 17) e=d) (g19:get (po 19) e = .int .i64 0)
    {dl d15:D} {k:Int} (g13:get (po 13) e=dl) (g15:get (po 15) e=d15) (g16:get (po 16) e = .int .i64 k) {r0:Re} (hr:LX (cF Try.prog) (.loop l3_2) e n h=r0) :
    ∃ e2 n2 h2 d2,r0 = .ok (.exit 6) e2 n2 h2∧Hp nb h0 n2 h2∧n≤n2∧Bld 6 encT nb (X++recT P I pl rc) h2 d2 ∧
      get (po 0) e2 = .int .i64 (P:Nat)∧get (po 1) e2 = .int .i64 (I:Nat)∧get (po 2) e2 = .int .i64 (C:Nat)∧get (po 3) e2 = .int .i64 (pl:Nat)∧get (po 4) e2 = .int .i64 (rc:Nat)∧get (po 12) e2 = .ptr 48 0 0∧get (po 17) e2=d2∧get (po 13) e2=dl∧get (po 15) e2=d15∧get (po 16) e2 = .int .i64 k:=by
  obtain ⟨y,e2,n2,h2,rfl,rfl,H2,p2,d2,B2,a0,a1,a2,a3,a4,a12,a17,a13,a15,a16⟩:=loop_up hr rc
    (fun i e n' h'=>Hp nb h0 n' h'∧n≤n'∧∃ d,Bld 6 encT nb (X++recT P I pl i) h' d∧get (po 0) e = .int .i64 (P:Nat)∧get (po 1) e = .int .i64 (I:Nat)∧get (po 2) e = .int .i64 (C:Nat)∧get (po 3) e = .int .i64 (pl:Nat)∧get (po 4) e = .int .i64 (rc:Nat)∧get (po 12) e = .ptr 48 0 0∧get (po 17) e=d∧get (po 13) e=dl∧get (po 15) e=d15∧get (po 16) e = .int .i64 k∧get (po 19) e = .int .i64 (i:Nat))
    (fun y e n' h'=>y = .exit 6∧Hp nb h0 n' h'∧n≤n'∧∃ d,Bld 6 encT nb (X++recT P I pl rc) h' d∧get (po 0) e = .int .i64 (P:Nat)∧get (po 1) e = .int .i64 (I:Nat)∧get (po 2) e = .int .i64 (C:Nat)∧get (po 3) e = .int .i64 (pl:Nat)∧get (po 4) e = .int .i64 (rc:Nat)∧get (po 12) e = .ptr 48 0 0∧get (po 17) e=d∧get (po 13) e=dl∧get (po 15) e=d15∧get (po 16) e = .int .i64 k)
    (by
      rintro e n' h' ⟨H,p1,d,B,g0,g1,g2,g3,g4,g12,g17,g13,g15,g16,g19⟩
      unfold l3_2
      simp (disch:=first|assumption|omega|(simp (disch:=first|assumption|omega) only [sB,reduceAdd,reduceLT,reduceLeDiff,reduceEqDiff,reduceMul,↓reduceIte];done)|fail) only [sA,↓reduceIte,reduceLT,reduceEqDiff,reduceAdd,reduceLeDiff,g4,g19]
      exact ⟨_,_,_,_,rfl,by simp,rfl,H.mono (by omega),by omega,d,B,by simp +decide only [sG,g0],by simp +decide only [sG,g1],by simp +decide only [sG,g2],by simp +decide only [sG,g3],by simp +decide only [sG,g4],by simp +decide only [sG,g12],by simp +decide only [sG,g17],by simp +decide only [sG,g13],by simp +decide only [sG,g15],by simp +decide only [sG,g16]⟩)
    (by
      rintro i e n' h' hi ⟨H,p1,d,B,g0,g1,g2,g3,g4,g12,g17,g13,g15,g16,g19⟩
      have hbo:=B.okD
      have hG:∀ m,n'≤m→Gd m h':=fun m hm k hk=>H.good k (by omega)
      have c1:∀ m h,Gd m h→callFn (LX (cF Try.prog)) m h [.int .i64 (P:Nat),.int .i64 ((pl+i:Nat):Int),.int .i64 (I:Nat)] (cF Try.prog 7) = .ok (encT (atT P ((pl+i:Nat):Int) I)) m h:=fun m h hg=>qAt P _ I (by omega) m h hg
      obtain ⟨D',H',A⟩:=app_bldx (b:=88) B H (Nat.le_refl _) H.le (fun m x=>low_flat (flatT x)) [atT P ((pl+i:Nat):Int) I] (by have:=recT_len (P:=P) (I:=I) (pl:=pl) (k:=i); simp; omega)
      have A1:=fun m hm => (A m hm).1
      simp only [List.map_cons,List.map_nil] at A1
      have eS:recT P I pl (i+1)=recT P I pl i++[atT P ((pl+i:Nat):Int) I]:=recT_succ
      generalize atT P ((pl+i:Nat):Int) I=T at c1 A A1 eS
      rw [encT_eq] at c1
      simp only [encT_eq] at A1
      unfold l3_2
      simp (disch:=first|assumption|omega|(simp (disch:=first|assumption|omega) only [sB,reduceAdd,reduceLT,reduceLeDiff,reduceEqDiff,reduceMul,↓reduceIte,hG];done)|fail) only [sA,↓reduceIte,reduceLT,reduceEqDiff,reduceAdd,reduceLeDiff,g0,g1,g3,g4,g17,g19,hbo,c1,A1,hG]
      exact ⟨_,_,_,_,rfl,.inl ⟨rfl,((A _ (by omega)).2.2.1).mono (by omega),by omega,_,by rw [eS,← List.append_assoc]; exact (A _ (by omega)).2.1,by simp +decide only [sG,g0],by simp +decide only [sG,g1],by simp +decide only [sG,g2],by simp +decide only [sG,g3],by simp +decide only [sG,g4],by simp +decide only [sG,g12],by simp +decide only [sG],by simp +decide only [sG,g13],by simp +decide only [sG,g15],by simp +decide only [sG,g16],by simp +decide only [sG]⟩⟩)
    ⟨H0,Nat.le_refl _,d,by rw [show recT P I pl 0=[] from rfl,List.append_nil]; exact B,g0,g1,g2,g3,g4,g12,g17,g13,g15,g16,g19⟩
  exact ⟨e2,n2,h2,d2,rfl,H2,p2,B2,a0,a1,a2,a3,a4,a12,a17,a13,a15,a16⟩
end Go.Proofs.Ytpbpmpabndgeeaa
