/- Whether two lists of variables are one, as the program asks it. No condition but lengths. -/
import Derived.Test.YtpbpmpabndgeeaaLA
set_option linter.unusedSimpArgs false
set_option linter.unusedVariables false
namespace Go.Proofs.Ytpbpmpabndgeeaa
open Go
open Nat (reduceAdd reduceLT reduceLeDiff reduceEqDiff reduceMul)

theorem eqV (p q:LV):eqD (.struct [.int .i64,.int .i64]) (encV p) (encV q) = .ok (decide (p=q)):=by
  unfold encV
  rw [eqD_struct]
  by_cases h1:p.1=q.1
  · by_cases h2:p.2=q.2
    · rw [decide_eq_true (Prod.ext h1 h2:p=q)]
      simp (disch:=first|assumption|omega|(simp (disch:=first|assumption|omega) only [sB,reduceAdd,reduceLT,reduceLeDiff,reduceEqDiff,reduceMul,↓reduceIte];done)|fail) only [sA,↓reduceIte,reduceLT,reduceEqDiff,reduceAdd,reduceLeDiff]
    · rw [decide_eq_false (fun e=>h2 (by rw [e]):¬ p=q)]
      simp (disch:=first|assumption|omega|(simp (disch:=first|assumption|omega) only [sB,reduceAdd,reduceLT,reduceLeDiff,reduceEqDiff,reduceMul,↓reduceIte];done)|fail) only [sA,↓reduceIte,reduceLT,reduceEqDiff,reduceAdd,reduceLeDiff]
  · rw [decide_eq_false (fun e=>h1 (by rw [e]):¬ p=q)]
    simp (disch:=first|assumption|omega|(simp (disch:=first|assumption|omega) only [sB,reduceAdd,reduceLT,reduceLeDiff,reduceEqDiff,reduceMul,↓reduceIte];done)|fail) only [sA,↓reduceIte,reduceLT,reduceEqDiff,reduceAdd,reduceLeDiff]

theorem slEqual (n:Nat) (h:Hps) (hg:∀ k,n≤k→GoodAt k h) (s s':Sl LV) (hs:s.el.length < 1000000000000) (hs':s'.el.length < 1000000000000) :
    callFn (LX (cF Try.prog)) n h [slD 2 encV s,slD 2 encV s'] (cF Try.prog 86) = .ok (.bool (decide (s.el=s'.el))) n h:=by
  have hgn:=hg n (Nat.le_refl _)
  have H0:Hp n h n h:=Hp.start hg
  have A:=svV (n:=n) (h:=h) s
  have A':=svV (n:=n) (h:=h) s'
  have s1:=A.len
  have s2:=A.idx
  have s3:=A.okD
  have t1:=A'.len
  have t2:=A'.idx
  have t3:=A'.okD
  rw [f86_eq]; unfold c86; rw [callFn_eq (by rfl)]
  by_cases h2:s.el.length=s'.el.length
  · simp (disch:=first|assumption|omega|(simp (disch:=first|assumption|omega) only [sB,reduceAdd,reduceLT,reduceLeDiff,reduceEqDiff,reduceMul,↓reduceIte];done)|fail) only [sA,↓reduceIte,reduceLT,reduceEqDiff,reduceAdd,reduceLeDiff,s1,s3,t1,t3]
    generalize hr:LX (cF Try.prog) (.loop l86_0) _ _ _=r
    obtain ⟨x,e2,n2,h2',rfl,H2,q⟩:=loop_up hr s.el.length
      (fun i e n' h'=>Hp n h n' h'∧s.el.take i=s'.el.take i∧get (po 0) e=slD 2 encV s∧get (po 1) e=slD 2 encV s'∧get (po 12) e = .int .i64 (s.el.length:Nat)∧get (po 13) e = .int .i64 (i:Nat))
      (fun x e n' h'=>Hp n h n' h' ∧ ((x = .exit 0∧s.el=s'.el) ∨ (x = .ret∧s.el≠s'.el∧get (po 4) e = .bool false)))
      (by
        rintro e n' h' ⟨H,ht,g0,g1,g12,g13⟩
        unfold l86_0
        rw [List.take_length,h2,List.take_length] at ht
        simp (disch:=first|assumption|omega|(simp (disch:=first|assumption|omega) only [sB,reduceAdd,reduceLT,reduceLeDiff,reduceEqDiff,reduceMul,↓reduceIte];done)|fail) only [sA,↓reduceIte,reduceLT,reduceEqDiff,reduceAdd,reduceLeDiff,g12,g13]
        exact ⟨_,_,_,_,rfl,by simp,H.mono (by omega),.inl ⟨rfl,ht⟩⟩)
      (by
        rintro i e n' h' hi ⟨H,ht,g0,g1,g12,g13⟩
        have hi':i < s'.el.length:=by omega
        have s4:=A.at H
        have t4:=A'.at H
        unfold l86_0
        by_cases a1:s.el[i]=s'.el[i]
        · have a2:decide (s.el[i]=s'.el[i])=true:=decide_eq_true a1
          simp (disch:=first|assumption|omega|(simp (disch:=first|assumption|omega) only [sB,reduceAdd,reduceLT,reduceLeDiff,reduceEqDiff,reduceMul,↓reduceIte];done)|fail) only [sA,↓reduceIte,reduceLT,reduceEqDiff,reduceAdd,reduceLeDiff,g0,g1,g12,g13,s1,s2,s3,s4,t1,t2,t3,t4,eqV,a2]
          exact ⟨_,_,_,_,rfl,.inl ⟨rfl,H.mono (by omega),(take_inj hi hi').2 ⟨ht,a1⟩,by simp +decide only [sG,g0],by simp +decide only [sG,g1],by simp +decide only [sG,g12],by simp +decide only [sG]⟩⟩
        · have a2:decide (s.el[i]=s'.el[i])=false:=decide_eq_false a1
          simp (disch:=first|assumption|omega|(simp (disch:=first|assumption|omega) only [sB,reduceAdd,reduceLT,reduceLeDiff,reduceEqDiff,reduceMul,↓reduceIte];done)|fail) only [sA,↓reduceIte,reduceLT,reduceEqDiff,reduceAdd,reduceLeDiff,g0,g1,g12,g13,s1,s2,s3,s4,t1,t2,t3,t4,eqV,a2]
          exact ⟨_,_,_,_,rfl,.inr ⟨by simp,H.mono (by omega),.inr ⟨rfl,take_ne hi hi' a1,by simp +decide only [sG]⟩⟩⟩)
      ⟨H0.mono (by omega),by simp,by simp +decide only [sG],by simp +decide only [sG],by simp +decide only [sG],by simp (disch:=first|assumption|omega|(simp (disch:=first|assumption|omega) only [sB,reduceAdd,reduceLT,reduceLeDiff,reduceEqDiff,reduceMul,↓reduceIte];done)|fail) only [sA,↓reduceIte,reduceLT,reduceEqDiff,reduceAdd,reduceLeDiff]⟩
    rcases q with ⟨rfl,q⟩ | ⟨rfl,q,q2⟩
    · rw [decide_eq_true q]
      simp (disch:=first|assumption|omega|(simp (disch:=first|assumption|omega) only [sB,reduceAdd,reduceLT,reduceLeDiff,reduceEqDiff,reduceMul,↓reduceIte];done)|fail) only [sA,↓reduceIte,reduceLT,reduceEqDiff,reduceAdd,reduceLeDiff,finish_flat (d := .bool true) rfl (H2.mono (show n2≤n2+1 by omega))]
    · rw [decide_eq_false q]
      simp (disch:=first|assumption|omega|(simp (disch:=first|assumption|omega) only [sB,reduceAdd,reduceLT,reduceLeDiff,reduceEqDiff,reduceMul,↓reduceIte];done)|fail) only [sA,↓reduceIte,reduceLT,reduceEqDiff,reduceAdd,reduceLeDiff,q2,finish_flat (d := .bool false) rfl H2]
  · rw [decide_eq_false (fun e=>h2 (by rw [e]))]
    simp (disch:=first|assumption|omega|(simp (disch:=first|assumption|omega) only [sB,reduceAdd,reduceLT,reduceLeDiff,reduceEqDiff,reduceMul,↓reduceIte];done)|fail) only [sA,↓reduceIte,reduceLT,reduceEqDiff,reduceAdd,reduceLeDiff,s1,s3,t1,t3]

end Go.Proofs.Ytpbpmpabndgeeaa
