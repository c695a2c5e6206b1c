/- Merged: LA LB. -/
import Derived.Test.YtjagmfgjlfkmgaaKLC

/- Whether two levels are one in all fields; the reference's Suc and Max. No condition. -/
set_option linter.unusedSimpArgs false
set_option linter.unusedVariables false
namespace Go.Proofs.Ytjagmfgjlfkmgaa
open Go

theorem take_inj {α : Type} {l m : List α} {i : Nat} (hl : i < l.length) (hm : i < m.length) : l.take (i + 1) = m.take (i + 1) ↔ l.take i = m.take i ∧ l[i] = m[i] := by
  rw [List.take_succ_eq_append_getElem hl,List.take_succ_eq_append_getElem hm]
  constructor
  · intro h
    have := List.append_inj h (by rw [List.length_take,List.length_take]; omega)
    exact ⟨this.1,by simpa using this.2⟩
  · rintro ⟨h1,h2⟩
    rw [h1,h2]
theorem take_ne {α : Type} {l m : List α} {i : Nat} (hl : i < l.length) (hm : i < m.length) (h : l[i] ≠ m[i]) : l ≠ m := fun e => h (by subst e; rfl)

theorem lawExact (n : Nat) (h : Hps) (hg : ∀ k,n ≤ k → GoodAt k h) (N N' : Int) (d d' : D) (l l' : List LV) (ad ad' : Nat → D) (S : Sv 2 encV n h d l ad) (S' : Sv 2 encV n h d' l' ad') (hs : l.length < 1000000000000) (hs' : l'.length < 1000000000000) :
    callFn (LX (cFk kN Try.prog)) n h [(D.agg [.int .i64 (N),d]),(D.agg [.int .i64 (N'),d'])] (cFk kN Try.prog 40) = .ok (.bool (decide (N = N' ∧ l = l'))) n h := by
  have hgn := hg n (Nat.le_refl _)
  have s1 := S.len
  have s2 := S.idx
  have s3 := S.okD
  have t1 := S'.len
  have t2 := S'.idx
  have t3 := S'.okD
  have H0 : Hp n h (n + 2) ((n + 1,(Ob.row 2 [.agg [.int .i64 (N'),d']])) :: (n,(Ob.row 2 [.agg [.int .i64 (N),d]])) :: h) := ((Hp.start hg).cons (r := n) (m := n + 1) (Nat.le_refl _) (by omega) (fun k hk => S.box2 (by omega))).cons (m := n + 2) (r := n + 1) (by omega) (by omega) (fun k hk => S'.box2 (by omega))
  rw [f40_eq]; unfold c40; rw [callFn_eq (by rfl)]
  by_cases h1 : N = N'
  · by_cases h2 : l.length = l'.length
    · simp (disch:=first|assumption|omega|(simp (disch:=first|assumption|omega) only [sB,Nat.reduceAdd,Nat.reduceLT,Nat.reduceLeDiff,Nat.reduceEqDiff,Nat.reduceMul,↓reduceIte];done)|fail) only [sA,↓reduceIte,Nat.reduceLT,Nat.reduceEqDiff,Nat.reduceAdd,Nat.reduceLeDiff,s1,s3,t1,t3]
      generalize hr : LX (cFk kN Try.prog) (.loop l40_0) _ _ _ = r
      obtain ⟨x,e2,n2,h2',rfl,H2,q⟩ := loop_up hr l.length
        (fun i e n' h' => Hp n h n' h' ∧ n + 2 ≤ n' ∧ getO h' n = (Ob.row 2 [.agg [.int .i64 (N),d]]) ∧ getO h' (n + 1) = (Ob.row 2 [.agg [.int .i64 (N'),d']]) ∧ l.take i = l'.take i ∧ get (po 2) e = .ptr n 0 0 ∧ get (po 3) e = .ptr (n + 1) 0 0 ∧ get (po 5) e = .int .i64 (i : Nat))
        (fun x e n' h' => Hp n h n' h' ∧ ((x = .exit 0 ∧ l = l') ∨ (x = .ret ∧ l ≠ l' ∧ get (po 4) e = .bool false)))
        (by
          rintro e n' h' ⟨H,p1,b1,b2,ht,g2,g3,g5⟩
          unfold l40_0
          rw [List.take_length,h2,List.take_length] at ht
          simp (disch:=first|assumption|omega|(simp (disch:=first|assumption|omega) only [sB,Nat.reduceAdd,Nat.reduceLT,Nat.reduceLeDiff,Nat.reduceEqDiff,Nat.reduceMul,↓reduceIte];done)|fail) only [sA,↓reduceIte,Nat.reduceLT,Nat.reduceEqDiff,Nat.reduceAdd,Nat.reduceLeDiff,g2,g3,g5,b1,s1,s3]
          exact ⟨_,_,_,_,rfl,by simp,H.mono (by omega),.inl ⟨rfl,ht⟩⟩)
        (by
          rintro i e n' h' hi ⟨H,p1,b1,b2,ht,g2,g3,g5⟩
          have hi' : i < l'.length := by omega
          have s4 := S.at H
          have t4 := S'.at H
          unfold l40_0
          by_cases a1 : l[i].1 = l'[i].1
          · by_cases a2 : l[i].2 = l'[i].2
            · simp (disch:=first|assumption|omega|(simp (disch:=first|assumption|omega) only [sB,Nat.reduceAdd,Nat.reduceLT,Nat.reduceLeDiff,Nat.reduceEqDiff,Nat.reduceMul,↓reduceIte];done)|fail) only [sA,↓reduceIte,Nat.reduceLT,Nat.reduceEqDiff,Nat.reduceAdd,Nat.reduceLeDiff,g2,g3,g5,b1,b2,s1,s2,s3,s4,t1,t2,t3,t4,encV]
              exact ⟨_,_,_,_,rfl,.inl ⟨rfl,H.mono (by omega),by omega,b1,b2,(take_inj hi hi').2 ⟨ht,Prod.ext a1 a2⟩,by simp (disch:=first|assumption|omega|(simp (disch:=first|assumption|omega) only [sB,Nat.reduceAdd,Nat.reduceLT,Nat.reduceLeDiff,Nat.reduceEqDiff,Nat.reduceMul,↓reduceIte];done)|fail) only [sA,↓reduceIte,Nat.reduceLT,Nat.reduceEqDiff,Nat.reduceAdd,Nat.reduceLeDiff,g2],by simp (disch:=first|assumption|omega|(simp (disch:=first|assumption|omega) only [sB,Nat.reduceAdd,Nat.reduceLT,Nat.reduceLeDiff,Nat.reduceEqDiff,Nat.reduceMul,↓reduceIte];done)|fail) only [sA,↓reduceIte,Nat.reduceLT,Nat.reduceEqDiff,Nat.reduceAdd,Nat.reduceLeDiff,g3],by simp (disch:=first|assumption|omega|(simp (disch:=first|assumption|omega) only [sB,Nat.reduceAdd,Nat.reduceLT,Nat.reduceLeDiff,Nat.reduceEqDiff,Nat.reduceMul,↓reduceIte];done)|fail) only [sA,↓reduceIte,Nat.reduceLT,Nat.reduceEqDiff,Nat.reduceAdd,Nat.reduceLeDiff]⟩⟩
            · simp (disch:=first|assumption|omega|(simp (disch:=first|assumption|omega) only [sB,Nat.reduceAdd,Nat.reduceLT,Nat.reduceLeDiff,Nat.reduceEqDiff,Nat.reduceMul,↓reduceIte];done)|fail) only [sA,↓reduceIte,Nat.reduceLT,Nat.reduceEqDiff,Nat.reduceAdd,Nat.reduceLeDiff,g2,g3,g5,b1,b2,s1,s2,s3,s4,t1,t2,t3,t4,encV]
              exact ⟨_,_,_,_,rfl,.inr ⟨by simp,H.mono (by omega),.inr ⟨rfl,take_ne hi hi' (fun e => a2 (by rw [e])),by simp (disch:=first|assumption|omega|(simp (disch:=first|assumption|omega) only [sB,Nat.reduceAdd,Nat.reduceLT,Nat.reduceLeDiff,Nat.reduceEqDiff,Nat.reduceMul,↓reduceIte];done)|fail) only [sA,↓reduceIte,Nat.reduceLT,Nat.reduceEqDiff,Nat.reduceAdd,Nat.reduceLeDiff]⟩⟩⟩
          · simp (disch:=first|assumption|omega|(simp (disch:=first|assumption|omega) only [sB,Nat.reduceAdd,Nat.reduceLT,Nat.reduceLeDiff,Nat.reduceEqDiff,Nat.reduceMul,↓reduceIte];done)|fail) only [sA,↓reduceIte,Nat.reduceLT,Nat.reduceEqDiff,Nat.reduceAdd,Nat.reduceLeDiff,g2,g3,g5,b1,b2,s1,s2,s3,s4,t1,t2,t3,t4,encV]
            exact ⟨_,_,_,_,rfl,.inr ⟨by simp,H.mono (by omega),.inr ⟨rfl,take_ne hi hi' (fun e => a1 (by rw [e])),by simp (disch:=first|assumption|omega|(simp (disch:=first|assumption|omega) only [sB,Nat.reduceAdd,Nat.reduceLT,Nat.reduceLeDiff,Nat.reduceEqDiff,Nat.reduceMul,↓reduceIte];done)|fail) only [sA,↓reduceIte,Nat.reduceLT,Nat.reduceEqDiff,Nat.reduceAdd,Nat.reduceLeDiff]⟩⟩⟩)
        ⟨H0.mono (by omega),by omega,by simp (disch:=first|assumption|omega|(simp (disch:=first|assumption|omega) only [sB,Nat.reduceAdd,Nat.reduceLT,Nat.reduceLeDiff,Nat.reduceEqDiff,Nat.reduceMul,↓reduceIte];done)|fail) only [sA,↓reduceIte,Nat.reduceLT,Nat.reduceEqDiff,Nat.reduceAdd,Nat.reduceLeDiff],by simp (disch:=first|assumption|omega|(simp (disch:=first|assumption|omega) only [sB,Nat.reduceAdd,Nat.reduceLT,Nat.reduceLeDiff,Nat.reduceEqDiff,Nat.reduceMul,↓reduceIte];done)|fail) only [sA,↓reduceIte,Nat.reduceLT,Nat.reduceEqDiff,Nat.reduceAdd,Nat.reduceLeDiff],by simp,by simp (disch:=first|assumption|omega|(simp (disch:=first|assumption|omega) only [sB,Nat.reduceAdd,Nat.reduceLT,Nat.reduceLeDiff,Nat.reduceEqDiff,Nat.reduceMul,↓reduceIte];done)|fail) only [sA,↓reduceIte,Nat.reduceLT,Nat.reduceEqDiff,Nat.reduceAdd,Nat.reduceLeDiff],by simp (disch:=first|assumption|omega|(simp (disch:=first|assumption|omega) only [sB,Nat.reduceAdd,Nat.reduceLT,Nat.reduceLeDiff,Nat.reduceEqDiff,Nat.reduceMul,↓reduceIte];done)|fail) only [sA,↓reduceIte,Nat.reduceLT,Nat.reduceEqDiff,Nat.reduceAdd,Nat.reduceLeDiff],by simp (disch:=first|assumption|omega|(simp (disch:=first|assumption|omega) only [sB,Nat.reduceAdd,Nat.reduceLT,Nat.reduceLeDiff,Nat.reduceEqDiff,Nat.reduceMul,↓reduceIte];done)|fail) only [sA,↓reduceIte,Nat.reduceLT,Nat.reduceEqDiff,Nat.reduceAdd,Nat.reduceLeDiff]⟩
      rcases q with ⟨rfl,q⟩ | ⟨rfl,q,q2⟩
      · rw [decide_eq_true (show N = N' ∧ l = l' from ⟨h1,q⟩)]
        simp (disch:=first|assumption|omega|(simp (disch:=first|assumption|omega) only [sB,Nat.reduceAdd,Nat.reduceLT,Nat.reduceLeDiff,Nat.reduceEqDiff,Nat.reduceMul,↓reduceIte];done)|fail) only [sA,↓reduceIte,Nat.reduceLT,Nat.reduceEqDiff,Nat.reduceAdd,Nat.reduceLeDiff,finish_flat (d := .bool true) rfl (H2.mono (show n2 ≤ n2 + 1 by omega))]
      · rw [decide_eq_false (show ¬ (N = N' ∧ l = l') from fun e => q e.2)]
        simp (disch:=first|assumption|omega|(simp (disch:=first|assumption|omega) only [sB,Nat.reduceAdd,Nat.reduceLT,Nat.reduceLeDiff,Nat.reduceEqDiff,Nat.reduceMul,↓reduceIte];done)|fail) only [sA,↓reduceIte,Nat.reduceLT,Nat.reduceEqDiff,Nat.reduceAdd,Nat.reduceLeDiff,q2,finish_flat (d := .bool false) rfl H2]
    · rw [decide_eq_false (show ¬ (N = N' ∧ l = l') from fun e => h2 (by rw [e.2]))]
      simp (disch:=first|assumption|omega|(simp (disch:=first|assumption|omega) only [sB,Nat.reduceAdd,Nat.reduceLT,Nat.reduceLeDiff,Nat.reduceEqDiff,Nat.reduceMul,↓reduceIte];done)|fail) only [sA,↓reduceIte,Nat.reduceLT,Nat.reduceEqDiff,Nat.reduceAdd,Nat.reduceLeDiff,s1,s3,t1,t3]
  · rw [decide_eq_false (show ¬ (N = N' ∧ l = l') from fun e => h1 e.1)]
    simp (disch:=first|assumption|omega|(simp (disch:=first|assumption|omega) only [sB,Nat.reduceAdd,Nat.reduceLT,Nat.reduceLeDiff,Nat.reduceEqDiff,Nat.reduceMul,↓reduceIte];done)|fail) only [sA,↓reduceIte,Nat.reduceLT,Nat.reduceEqDiff,Nat.reduceAdd,Nat.reduceLeDiff,s1,s3,t1,t3]
end Go.Proofs.Ytjagmfgjlfkmgaa

