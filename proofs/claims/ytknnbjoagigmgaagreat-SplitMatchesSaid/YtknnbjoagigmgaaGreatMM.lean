/- SplitMatches: which rows match which values: the program's answer is the reference's, for all rows and values. No condition. -/
import Derived.Test.YtknnbjoagigmgaaGreatMP
import Derived.Test.YtknnbjoagigmgaaGreatCM
import Derived.Test.YtknnbjoagigmgaaGreatEB
import Derived.OpenShut
import Derived.JoinedCond
set_option linter.unusedSimpArgs false
set_option linter.unusedVariables false
namespace Go.Proofs.YtknnbjoagigmgaaGreat
open Go Go.ChangeShapes Go.WideShapes Go.ChangeAt Go.RowKit

mutual
def mP : Pat → Pat → Bool
  | .mk f nm _ _ ks _,v => if f = 1 then true else if f = 2 ∧ v.form = 2 ∧ nm = v.name then mPs ks v.kids.el else false
def mPs : List Pat → List Pat → Bool
  | [],[] => true
  | [],_ :: _ => false
  | _ :: _,[] => false
  | p :: t,v :: u => mP p v && mPs t u
end
theorem mP_eq (p v : Pat) : mP p v = if p.form = 1 then true else if p.form = 2 ∧ v.form = 2 ∧ p.name = v.name then mPs p.kids.el v.kids.el else false := by cases p; rw [mP]; rfl
theorem mPs_len : ∀ {s t : List Pat},s.length ≠ t.length → mPs s t = false
  | [],[],h => absurd rfl h
  | [],_ :: _,_ => by rw [mPs]
  | _ :: _,[],_ => by rw [mPs]
  | p :: s,q :: t,h => by rw [mPs,mPs_len (s := s) (t := t) (by simpa using h),Bool.and_false]
theorem mPs_drop {s t : List Pat} {i : Nat} (h1 : i < s.length) (h2 : i < t.length) : mPs (s.drop i) (t.drop i) = (mP s[i] t[i] && mPs (s.drop (i + 1)) (t.drop (i + 1))) := by
  rw [List.drop_eq_getElem_cons h1,List.drop_eq_getElem_cons h2,mPs]
theorem keep1 {n m : Nat} {h : Hps} (H : Hp n [] m h) : ∀ k,m ≤ k → GoodAt k h := H.good

set_option maxHeartbeats 4000000 in
theorem pMatch : ∀ (m : Nat) (s t : Sl Pat),sizePs s.el ≤ m → s.el.length ≤ 9223372036854775807 → finPs s.el → ∀ n,callFn (LX (cFk kQ Tryz.prog)) n [] [slD 3 encP s,slD 3 encP t] (cFk kQ Tryz.prog 24) = .ok (.bool (mPs s.el t.el)) n [] := by
  intro m
  induction m using Nat.strongRecOn with
  | _ m ih =>
  intro s t hm hl hf n
  have hg : ∀ k,n ≤ k → GoodAt k [] := fun _ _ => good_nil
  have hgn := hg n (Nat.le_refl _)
  rw [f24_eq]; unfold c24; rw [callFn_eq (by rfl)]
  by_cases y : s.el.length = t.el.length
  case neg =>
    rw [mPs_len y]
    have y' : ¬ ((s.el.length : Nat) : Int) = ((t.el.length : Nat) : Int) := by omega
    simp (disch:=first|assumption|omega|(simp (disch:=first|assumption|omega) only [sB,Nat.reduceAdd,Nat.reduceLT,Nat.reduceLeDiff,Nat.reduceEqDiff,Nat.reduceMul,↓reduceIte];done)|fail) only [sA,↓reduceIte,Nat.reduceLT,Nat.reduceEqDiff,Nat.reduceAdd,Nat.reduceLeDiff,y']
  have yd : decide (((s.el.length : Nat) : Int) = ((t.el.length : Nat) : Int)) = true := decide_eq_true (by omega)
  generalize hB : mPs s.el t.el = B
  simp (disch:=first|assumption|omega|(simp (disch:=first|assumption|omega) only [sB,Nat.reduceAdd,Nat.reduceLT,Nat.reduceLeDiff,Nat.reduceEqDiff,Nat.reduceMul,↓reduceIte];done)|fail) only [sA,↓reduceIte,Nat.reduceLT,Nat.reduceEqDiff,Nat.reduceAdd,Nat.reduceLeDiff,yd]
  generalize hr : LX (cFk kQ Tryz.prog) (.loop l24_0) _ _ _ = r
  obtain ⟨x,e2,n2,h2,rfl,H2,q⟩ := loop_up hr s.el.length
    (fun i e n' h' => Hp n [] n' h' ∧ mPs (s.el.drop i) (t.el.drop i) = B ∧ get (po 1) e = slD 3 encP t ∧ get (po 13) e = slD 3 encP s ∧ get (po 14) e = .int .i64 (s.el.length : Nat) ∧ get (po 15) e = .int .i64 (i : Nat))
    (fun x e n' h' => Hp n [] n' h' ∧ ((x = .exit 0 ∧ B = true) ∨ (x = .ret ∧ B = false ∧ get (po 4) e = .bool false)))
    (by
      rintro e n' h' ⟨H,hb,g1,g13,g14,g15⟩
      rw [List.drop_length,y,List.drop_length,mPs] at hb
      unfold l24_0
      simp (disch:=first|assumption|omega|(simp (disch:=first|assumption|omega) only [sB,Nat.reduceAdd,Nat.reduceLT,Nat.reduceLeDiff,Nat.reduceEqDiff,Nat.reduceMul,↓reduceIte];done)|fail) only [sA,↓reduceIte,Nat.reduceLT,Nat.reduceEqDiff,Nat.reduceAdd,Nat.reduceLeDiff,g14,g15]
      exact ⟨_,_,_,_,rfl,by simp,H.mono (by omega),.inl ⟨rfl,hb.symm⟩⟩)
    (by
      rintro i e n' h' hi ⟨H,hb,g1,g13,g14,g15⟩
      have hi' : i < t.el.length := by omega
      rw [mPs_drop hi hi',mP_eq] at hb
      have k1 := sizePs_mem (List.getElem_mem hi)
      have k2 := finPs_mem hf (List.getElem_mem hi)
      rw [sizeP_eq] at k1
      rw [finP_eq] at k2
      have c1 : ∀ q,callFn (LX (cFk kQ Tryz.prog)) q [] [slD 3 encP s.el[i].kids,slD 3 encP t.el[i].kids] (cFk kQ Tryz.prog 24) = .ok (.bool (mPs s.el[i].kids.el t.el[i].kids.el)) q [] := fun q => ih (sizePs s.el[i].kids.el) (by omega) _ _ (Nat.le_refl _) k2.1 k2.2 q
      have HX : Hp n [] (n' + 12) ((n' + 11,.row 3 [.agg [.int .i64 t.el[i].form,.str t.el[i].name,slD 3 encP t.el[i].kids]]) :: (n' + 4,.row 3 [.agg [.int .i64 s.el[i].form,.str s.el[i].name,slD 3 encP s.el[i].kids]]) :: h') := (H.box (r := n' + 4) (m := n' + 5) (by omega) (by omega) (flatP s.el[i])).box (r := n' + 11) (m := n' + 12) (by omega) (by omega) (flatP t.el[i])
      unfold l24_0
      by_cases f1 : s.el[i].form = 1
      · rw [if_pos f1,Bool.true_and] at hb
        simp (disch:=first|assumption|omega|(simp (disch:=first|assumption|omega) only [sB,Nat.reduceAdd,Nat.reduceLT,Nat.reduceLeDiff,Nat.reduceEqDiff,Nat.reduceMul,↓reduceIte,hi'];done)|fail) only [sA,↓reduceIte,Nat.reduceLT,Nat.reduceEqDiff,Nat.reduceAdd,Nat.reduceLeDiff,g1,g13,g14,g15,encP_eq,f1,hi']
        exact ⟨_,_,_,_,rfl,.inl ⟨rfl,(by simp only [f1] at HX; exact HX.mono (by omega)),hb,by simp (disch:=first|assumption|omega|(simp (disch:=first|assumption|omega) only [sB,Nat.reduceAdd,Nat.reduceLT,Nat.reduceLeDiff,Nat.reduceEqDiff,Nat.reduceMul,↓reduceIte];done)|fail) only [sA,↓reduceIte,Nat.reduceLT,Nat.reduceEqDiff,Nat.reduceAdd,Nat.reduceLeDiff,g1],by simp (disch:=first|assumption|omega|(simp (disch:=first|assumption|omega) only [sB,Nat.reduceAdd,Nat.reduceLT,Nat.reduceLeDiff,Nat.reduceEqDiff,Nat.reduceMul,↓reduceIte];done)|fail) only [sA,↓reduceIte,Nat.reduceLT,Nat.reduceEqDiff,Nat.reduceAdd,Nat.reduceLeDiff,g13],by simp (disch:=first|assumption|omega|(simp (disch:=first|assumption|omega) only [sB,Nat.reduceAdd,Nat.reduceLT,Nat.reduceLeDiff,Nat.reduceEqDiff,Nat.reduceMul,↓reduceIte];done)|fail) only [sA,↓reduceIte,Nat.reduceLT,Nat.reduceEqDiff,Nat.reduceAdd,Nat.reduceLeDiff,g14],by simp (disch:=first|assumption|omega|(simp (disch:=first|assumption|omega) only [sB,Nat.reduceAdd,Nat.reduceLT,Nat.reduceLeDiff,Nat.reduceEqDiff,Nat.reduceMul,↓reduceIte];done)|fail) only [sA,↓reduceIte,Nat.reduceLT,Nat.reduceEqDiff,Nat.reduceAdd,Nat.reduceLeDiff]⟩⟩
      · rw [if_neg f1] at hb
        by_cases f2 : s.el[i].form = 2
        · by_cases f3 : t.el[i].form = 2
          · by_cases f4 : s.el[i].name = t.el[i].name
            · rw [if_pos ⟨f2,f3,f4⟩] at hb
              generalize mPs s.el[i].kids.el t.el[i].kids.el = C at hb c1
              cases C with
              | true =>
                simp (disch:=first|assumption|omega|(simp (disch:=first|assumption|omega) only [sB,Nat.reduceAdd,Nat.reduceLT,Nat.reduceLeDiff,Nat.reduceEqDiff,Nat.reduceMul,↓reduceIte,hi'];done)|fail) only [sA,↓reduceIte,Nat.reduceLT,Nat.reduceEqDiff,Nat.reduceAdd,Nat.reduceLeDiff,g1,g13,g14,g15,encP_eq,f1,f2,f3,f4,str_neq,c1,hi']
                rw [Bool.true_and] at hb
                exact ⟨_,_,_,_,rfl,.inl ⟨rfl,(by simp only [f2,f3,f4] at HX; exact HX.mono (by omega)),hb,by simp (disch:=first|assumption|omega|(simp (disch:=first|assumption|omega) only [sB,Nat.reduceAdd,Nat.reduceLT,Nat.reduceLeDiff,Nat.reduceEqDiff,Nat.reduceMul,↓reduceIte];done)|fail) only [sA,↓reduceIte,Nat.reduceLT,Nat.reduceEqDiff,Nat.reduceAdd,Nat.reduceLeDiff,g1],by simp (disch:=first|assumption|omega|(simp (disch:=first|assumption|omega) only [sB,Nat.reduceAdd,Nat.reduceLT,Nat.reduceLeDiff,Nat.reduceEqDiff,Nat.reduceMul,↓reduceIte];done)|fail) only [sA,↓reduceIte,Nat.reduceLT,Nat.reduceEqDiff,Nat.reduceAdd,Nat.reduceLeDiff,g13],by simp (disch:=first|assumption|omega|(simp (disch:=first|assumption|omega) only [sB,Nat.reduceAdd,Nat.reduceLT,Nat.reduceLeDiff,Nat.reduceEqDiff,Nat.reduceMul,↓reduceIte];done)|fail) only [sA,↓reduceIte,Nat.reduceLT,Nat.reduceEqDiff,Nat.reduceAdd,Nat.reduceLeDiff,g14],by simp (disch:=first|assumption|omega|(simp (disch:=first|assumption|omega) only [sB,Nat.reduceAdd,Nat.reduceLT,Nat.reduceLeDiff,Nat.reduceEqDiff,Nat.reduceMul,↓reduceIte];done)|fail) only [sA,↓reduceIte,Nat.reduceLT,Nat.reduceEqDiff,Nat.reduceAdd,Nat.reduceLeDiff]⟩⟩
              | false =>
                simp (disch:=first|assumption|omega|(simp (disch:=first|assumption|omega) only [sB,Nat.reduceAdd,Nat.reduceLT,Nat.reduceLeDiff,Nat.reduceEqDiff,Nat.reduceMul,↓reduceIte,hi'];done)|fail) only [sA,↓reduceIte,Nat.reduceLT,Nat.reduceEqDiff,Nat.reduceAdd,Nat.reduceLeDiff,g1,g13,g14,g15,encP_eq,f1,f2,f3,f4,str_neq,c1,hi']
                rw [Bool.false_and] at hb
                exact ⟨_,_,_,_,rfl,.inr ⟨by simp,(by simp only [f2,f3,f4] at HX; exact HX.mono (by omega)),.inr ⟨rfl,hb.symm,by simp (disch:=first|assumption|omega|(simp (disch:=first|assumption|omega) only [sB,Nat.reduceAdd,Nat.reduceLT,Nat.reduceLeDiff,Nat.reduceEqDiff,Nat.reduceMul,↓reduceIte];done)|fail) only [sA,↓reduceIte,Nat.reduceLT,Nat.reduceEqDiff,Nat.reduceAdd,Nat.reduceLeDiff]⟩⟩⟩
            · rw [if_neg (fun h => f4 h.2.2),Bool.false_and] at hb
              simp (disch:=first|assumption|omega|(simp (disch:=first|assumption|omega) only [sB,Nat.reduceAdd,Nat.reduceLT,Nat.reduceLeDiff,Nat.reduceEqDiff,Nat.reduceMul,↓reduceIte,hi'];done)|fail) only [sA,↓reduceIte,Nat.reduceLT,Nat.reduceEqDiff,Nat.reduceAdd,Nat.reduceLeDiff,g1,g13,g14,g15,encP_eq,f1,f2,f3,f4,str_neq,hi']
              exact ⟨_,_,_,_,rfl,.inr ⟨by simp,(by simp only [f2,f3] at HX; exact HX.mono (by omega)),.inr ⟨rfl,hb.symm,by simp (disch:=first|assumption|omega|(simp (disch:=first|assumption|omega) only [sB,Nat.reduceAdd,Nat.reduceLT,Nat.reduceLeDiff,Nat.reduceEqDiff,Nat.reduceMul,↓reduceIte];done)|fail) only [sA,↓reduceIte,Nat.reduceLT,Nat.reduceEqDiff,Nat.reduceAdd,Nat.reduceLeDiff]⟩⟩⟩
          · rw [if_neg (fun h => f3 h.2.1),Bool.false_and] at hb
            simp (disch:=first|assumption|omega|(simp (disch:=first|assumption|omega) only [sB,Nat.reduceAdd,Nat.reduceLT,Nat.reduceLeDiff,Nat.reduceEqDiff,Nat.reduceMul,↓reduceIte,hi'];done)|fail) only [sA,↓reduceIte,Nat.reduceLT,Nat.reduceEqDiff,Nat.reduceAdd,Nat.reduceLeDiff,g1,g13,g14,g15,encP_eq,f1,f2,f3,hi']
            exact ⟨_,_,_,_,rfl,.inr ⟨by simp,(by simp only [f2] at HX; exact HX.mono (by omega)),.inr ⟨rfl,hb.symm,by simp (disch:=first|assumption|omega|(simp (disch:=first|assumption|omega) only [sB,Nat.reduceAdd,Nat.reduceLT,Nat.reduceLeDiff,Nat.reduceEqDiff,Nat.reduceMul,↓reduceIte];done)|fail) only [sA,↓reduceIte,Nat.reduceLT,Nat.reduceEqDiff,Nat.reduceAdd,Nat.reduceLeDiff]⟩⟩⟩
        · rw [if_neg (fun h => f2 h.1),Bool.false_and] at hb
          simp (disch:=first|assumption|omega|(simp (disch:=first|assumption|omega) only [sB,Nat.reduceAdd,Nat.reduceLT,Nat.reduceLeDiff,Nat.reduceEqDiff,Nat.reduceMul,↓reduceIte,hi'];done)|fail) only [sA,↓reduceIte,Nat.reduceLT,Nat.reduceEqDiff,Nat.reduceAdd,Nat.reduceLeDiff,g1,g13,g14,g15,encP_eq,f1,f2,hi']
          exact ⟨_,_,_,_,rfl,.inr ⟨by simp,HX.mono (by omega),.inr ⟨rfl,hb.symm,by simp (disch:=first|assumption|omega|(simp (disch:=first|assumption|omega) only [sB,Nat.reduceAdd,Nat.reduceLT,Nat.reduceLeDiff,Nat.reduceEqDiff,Nat.reduceMul,↓reduceIte];done)|fail) only [sA,↓reduceIte,Nat.reduceLT,Nat.reduceEqDiff,Nat.reduceAdd,Nat.reduceLeDiff]⟩⟩⟩)
    ⟨(Hp.start hg).mono (by omega),by rw [List.drop_zero,List.drop_zero]; exact hB,by simp (disch:=first|assumption|omega|(simp (disch:=first|assumption|omega) only [sB,Nat.reduceAdd,Nat.reduceLT,Nat.reduceLeDiff,Nat.reduceEqDiff,Nat.reduceMul,↓reduceIte];done)|fail) only [sA,↓reduceIte,Nat.reduceLT,Nat.reduceEqDiff,Nat.reduceAdd,Nat.reduceLeDiff],by simp (disch:=first|assumption|omega|(simp (disch:=first|assumption|omega) only [sB,Nat.reduceAdd,Nat.reduceLT,Nat.reduceLeDiff,Nat.reduceEqDiff,Nat.reduceMul,↓reduceIte];done)|fail) only [sA,↓reduceIte,Nat.reduceLT,Nat.reduceEqDiff,Nat.reduceAdd,Nat.reduceLeDiff],by simp (disch:=first|assumption|omega|(simp (disch:=first|assumption|omega) only [sB,Nat.reduceAdd,Nat.reduceLT,Nat.reduceLeDiff,Nat.reduceEqDiff,Nat.reduceMul,↓reduceIte];done)|fail) only [sA,↓reduceIte,Nat.reduceLT,Nat.reduceEqDiff,Nat.reduceAdd,Nat.reduceLeDiff],by simp (disch:=first|assumption|omega|(simp (disch:=first|assumption|omega) only [sB,Nat.reduceAdd,Nat.reduceLT,Nat.reduceLeDiff,Nat.reduceEqDiff,Nat.reduceMul,↓reduceIte];done)|fail) only [sA,↓reduceIte,Nat.reduceLT,Nat.reduceEqDiff,Nat.reduceAdd,Nat.reduceLeDiff]⟩
  rcases q with ⟨rfl,hb⟩ | ⟨rfl,hb,g4⟩
  · rw [hb]
    simp (disch:=first|assumption|omega|(simp (disch:=first|assumption|omega) only [sB,Nat.reduceAdd,Nat.reduceLT,Nat.reduceLeDiff,Nat.reduceEqDiff,Nat.reduceMul,↓reduceIte];done)|fail) only [sA,↓reduceIte,Nat.reduceLT,Nat.reduceEqDiff,Nat.reduceAdd,Nat.reduceLeDiff,finish_flat (d := .bool true) rfl (H2.mono (show n2 ≤ n2 + 1 by omega))]
  · rw [hb]
    simp (disch:=first|assumption|omega|(simp (disch:=first|assumption|omega) only [sB,Nat.reduceAdd,Nat.reduceLT,Nat.reduceLeDiff,Nat.reduceEqDiff,Nat.reduceMul,↓reduceIte];done)|fail) only [sA,↓reduceIte,Nat.reduceLT,Nat.reduceEqDiff,Nat.reduceAdd,Nat.reduceLeDiff,g4]
    exact finish_flat (d := .bool false) rfl H2

set_option maxHeartbeats 4000000 in
theorem rMatch : ∀ (m : Nat) (s t : Sl Pat),sizePs s.el ≤ m → s.el.length ≤ 9223372036854775807 → finPs s.el → ∀ n,callFn (LX (cFk kQ Tryz.prog)) n [] [slD 3 encP s,slD 3 encP t] (cFk kQ Tryz.prog 25) = .ok (.bool (mPs s.el t.el)) n [] := by
  intro m
  induction m using Nat.strongRecOn with
  | _ m ih =>
  intro s t hm hl hf n
  have hg : ∀ k,n ≤ k → GoodAt k [] := fun _ _ => good_nil
  have hgn := hg n (Nat.le_refl _)
  rw [f25_eq]; unfold c25; rw [callFn_eq (by rfl)]
  by_cases y : s.el.length = t.el.length
  case neg =>
    rw [mPs_len y]
    have y' : ¬ ((s.el.length : Nat) : Int) = ((t.el.length : Nat) : Int) := by omega
    simp (disch:=first|assumption|omega|(simp (disch:=first|assumption|omega) only [sB,Nat.reduceAdd,Nat.reduceLT,Nat.reduceLeDiff,Nat.reduceEqDiff,Nat.reduceMul,↓reduceIte];done)|fail) only [sA,↓reduceIte,Nat.reduceLT,Nat.reduceEqDiff,Nat.reduceAdd,Nat.reduceLeDiff,y']
  have yd : decide (((s.el.length : Nat) : Int) = ((t.el.length : Nat) : Int)) = true := decide_eq_true (by omega)
  generalize hB : mPs s.el t.el = B
  simp (disch:=first|assumption|omega|(simp (disch:=first|assumption|omega) only [sB,Nat.reduceAdd,Nat.reduceLT,Nat.reduceLeDiff,Nat.reduceEqDiff,Nat.reduceMul,↓reduceIte];done)|fail) only [sA,↓reduceIte,Nat.reduceLT,Nat.reduceEqDiff,Nat.reduceAdd,Nat.reduceLeDiff,yd]
  generalize hr : LX (cFk kQ Tryz.prog) (.loop l25_0) _ _ _ = r
  obtain ⟨x,e2,n2,h2,rfl,rfl,H2,q⟩ := loop_up hr s.el.length
    (fun i e n' h' => h' = [] ∧ n ≤ n' ∧ mPs (s.el.drop i) (t.el.drop i) = B ∧ get (po 0) e = slD 3 encP s ∧ get (po 1) e = slD 3 encP t ∧ get (po 5) e = .int .i64 (i : Nat))
    (fun x e n' h' => h' = [] ∧ n ≤ n' ∧ ((x = .exit 0 ∧ B = true) ∨ (x = .ret ∧ B = false ∧ get (po 4) e = .bool false)))
    (by
      rintro e n' h' ⟨rfl,H,hb,g0,g1,g5⟩
      rw [List.drop_length,y,List.drop_length,mPs] at hb
      unfold l25_0
      simp (disch:=first|assumption|omega|(simp (disch:=first|assumption|omega) only [sB,Nat.reduceAdd,Nat.reduceLT,Nat.reduceLeDiff,Nat.reduceEqDiff,Nat.reduceMul,↓reduceIte];done)|fail) only [sA,↓reduceIte,Nat.reduceLT,Nat.reduceEqDiff,Nat.reduceAdd,Nat.reduceLeDiff,g0,g5]
      exact ⟨_,_,_,_,rfl,by simp,rfl,by omega,.inl ⟨rfl,hb.symm⟩⟩)
    (by
      rintro i e n' h' hi ⟨rfl,H,hb,g0,g1,g5⟩
      have hi' : i < t.el.length := by omega
      rw [mPs_drop hi hi',mP_eq] at hb
      have k1 := sizePs_mem (List.getElem_mem hi)
      have k2 := finPs_mem hf (List.getElem_mem hi)
      rw [sizeP_eq] at k1
      rw [finP_eq] at k2
      have c1 : ∀ q,callFn (LX (cFk kQ Tryz.prog)) q [] [slD 3 encP s.el[i].kids,slD 3 encP t.el[i].kids] (cFk kQ Tryz.prog 25) = .ok (.bool (mPs s.el[i].kids.el t.el[i].kids.el)) q [] := fun q => ih (sizePs s.el[i].kids.el) (by omega) _ _ (Nat.le_refl _) k2.1 k2.2 q
      unfold l25_0
      by_cases f1 : s.el[i].form = 1
      · rw [if_pos f1,Bool.true_and] at hb
        simp (disch:=first|assumption|omega|(simp (disch:=first|assumption|omega) only [sB,Nat.reduceAdd,Nat.reduceLT,Nat.reduceLeDiff,Nat.reduceEqDiff,Nat.reduceMul,↓reduceIte,hi'];done)|fail) only [sA,↓reduceIte,Nat.reduceLT,Nat.reduceEqDiff,Nat.reduceAdd,Nat.reduceLeDiff,g0,g1,g5,encP_eq,f1,hi']
        exact ⟨_,_,_,_,rfl,.inl ⟨rfl,rfl,by omega,hb,by simp (disch:=first|assumption|omega|(simp (disch:=first|assumption|omega) only [sB,Nat.reduceAdd,Nat.reduceLT,Nat.reduceLeDiff,Nat.reduceEqDiff,Nat.reduceMul,↓reduceIte];done)|fail) only [sA,↓reduceIte,Nat.reduceLT,Nat.reduceEqDiff,Nat.reduceAdd,Nat.reduceLeDiff,g0],by simp (disch:=first|assumption|omega|(simp (disch:=first|assumption|omega) only [sB,Nat.reduceAdd,Nat.reduceLT,Nat.reduceLeDiff,Nat.reduceEqDiff,Nat.reduceMul,↓reduceIte];done)|fail) only [sA,↓reduceIte,Nat.reduceLT,Nat.reduceEqDiff,Nat.reduceAdd,Nat.reduceLeDiff,g1],by simp (disch:=first|assumption|omega|(simp (disch:=first|assumption|omega) only [sB,Nat.reduceAdd,Nat.reduceLT,Nat.reduceLeDiff,Nat.reduceEqDiff,Nat.reduceMul,↓reduceIte];done)|fail) only [sA,↓reduceIte,Nat.reduceLT,Nat.reduceEqDiff,Nat.reduceAdd,Nat.reduceLeDiff]⟩⟩
      · rw [if_neg f1] at hb
        by_cases f2 : s.el[i].form = 2
        · by_cases f3 : t.el[i].form = 2
          · by_cases f4 : s.el[i].name = t.el[i].name
            · rw [if_pos ⟨f2,f3,f4⟩] at hb
              generalize mPs s.el[i].kids.el t.el[i].kids.el = C at hb c1
              cases C with
              | true =>
                rw [Bool.true_and] at hb
                simp (disch:=first|assumption|omega|(simp (disch:=first|assumption|omega) only [sB,Nat.reduceAdd,Nat.reduceLT,Nat.reduceLeDiff,Nat.reduceEqDiff,Nat.reduceMul,↓reduceIte,hi'];done)|fail) only [sA,↓reduceIte,Nat.reduceLT,Nat.reduceEqDiff,Nat.reduceAdd,Nat.reduceLeDiff,g0,g1,g5,encP_eq,f1,f2,f3,f4,str_neq,c1,hi']
                exact ⟨_,_,_,_,rfl,.inl ⟨rfl,rfl,by omega,hb,by simp (disch:=first|assumption|omega|(simp (disch:=first|assumption|omega) only [sB,Nat.reduceAdd,Nat.reduceLT,Nat.reduceLeDiff,Nat.reduceEqDiff,Nat.reduceMul,↓reduceIte];done)|fail) only [sA,↓reduceIte,Nat.reduceLT,Nat.reduceEqDiff,Nat.reduceAdd,Nat.reduceLeDiff,g0],by simp (disch:=first|assumption|omega|(simp (disch:=first|assumption|omega) only [sB,Nat.reduceAdd,Nat.reduceLT,Nat.reduceLeDiff,Nat.reduceEqDiff,Nat.reduceMul,↓reduceIte];done)|fail) only [sA,↓reduceIte,Nat.reduceLT,Nat.reduceEqDiff,Nat.reduceAdd,Nat.reduceLeDiff,g1],by simp (disch:=first|assumption|omega|(simp (disch:=first|assumption|omega) only [sB,Nat.reduceAdd,Nat.reduceLT,Nat.reduceLeDiff,Nat.reduceEqDiff,Nat.reduceMul,↓reduceIte];done)|fail) only [sA,↓reduceIte,Nat.reduceLT,Nat.reduceEqDiff,Nat.reduceAdd,Nat.reduceLeDiff]⟩⟩
              | false =>
                rw [Bool.false_and] at hb
                simp (disch:=first|assumption|omega|(simp (disch:=first|assumption|omega) only [sB,Nat.reduceAdd,Nat.reduceLT,Nat.reduceLeDiff,Nat.reduceEqDiff,Nat.reduceMul,↓reduceIte,hi'];done)|fail) only [sA,↓reduceIte,Nat.reduceLT,Nat.reduceEqDiff,Nat.reduceAdd,Nat.reduceLeDiff,g0,g1,g5,encP_eq,f1,f2,f3,f4,str_neq,c1,hi']
                exact ⟨_,_,_,_,rfl,.inr ⟨by simp,rfl,by omega,.inr ⟨rfl,hb.symm,by simp (disch:=first|assumption|omega|(simp (disch:=first|assumption|omega) only [sB,Nat.reduceAdd,Nat.reduceLT,Nat.reduceLeDiff,Nat.reduceEqDiff,Nat.reduceMul,↓reduceIte];done)|fail) only [sA,↓reduceIte,Nat.reduceLT,Nat.reduceEqDiff,Nat.reduceAdd,Nat.reduceLeDiff]⟩⟩⟩
            · rw [if_neg (fun h => f4 h.2.2),Bool.false_and] at hb
              simp (disch:=first|assumption|omega|(simp (disch:=first|assumption|omega) only [sB,Nat.reduceAdd,Nat.reduceLT,Nat.reduceLeDiff,Nat.reduceEqDiff,Nat.reduceMul,↓reduceIte,hi'];done)|fail) only [sA,↓reduceIte,Nat.reduceLT,Nat.reduceEqDiff,Nat.reduceAdd,Nat.reduceLeDiff,g0,g1,g5,encP_eq,f1,f2,f3,f4,str_neq,hi']
              exact ⟨_,_,_,_,rfl,.inr ⟨by simp,rfl,by omega,.inr ⟨rfl,hb.symm,by simp (disch:=first|assumption|omega|(simp (disch:=first|assumption|omega) only [sB,Nat.reduceAdd,Nat.reduceLT,Nat.reduceLeDiff,Nat.reduceEqDiff,Nat.reduceMul,↓reduceIte];done)|fail) only [sA,↓reduceIte,Nat.reduceLT,Nat.reduceEqDiff,Nat.reduceAdd,Nat.reduceLeDiff]⟩⟩⟩
          · rw [if_neg (fun h => f3 h.2.1),Bool.false_and] at hb
            simp (disch:=first|assumption|omega|(simp (disch:=first|assumption|omega) only [sB,Nat.reduceAdd,Nat.reduceLT,Nat.reduceLeDiff,Nat.reduceEqDiff,Nat.reduceMul,↓reduceIte,hi'];done)|fail) only [sA,↓reduceIte,Nat.reduceLT,Nat.reduceEqDiff,Nat.reduceAdd,Nat.reduceLeDiff,g0,g1,g5,encP_eq,f1,f2,f3,hi']
            exact ⟨_,_,_,_,rfl,.inr ⟨by simp,rfl,by omega,.inr ⟨rfl,hb.symm,by simp (disch:=first|assumption|omega|(simp (disch:=first|assumption|omega) only [sB,Nat.reduceAdd,Nat.reduceLT,Nat.reduceLeDiff,Nat.reduceEqDiff,Nat.reduceMul,↓reduceIte];done)|fail) only [sA,↓reduceIte,Nat.reduceLT,Nat.reduceEqDiff,Nat.reduceAdd,Nat.reduceLeDiff]⟩⟩⟩
        · rw [if_neg (fun h => f2 h.1),Bool.false_and] at hb
          simp (disch:=first|assumption|omega|(simp (disch:=first|assumption|omega) only [sB,Nat.reduceAdd,Nat.reduceLT,Nat.reduceLeDiff,Nat.reduceEqDiff,Nat.reduceMul,↓reduceIte,hi'];done)|fail) only [sA,↓reduceIte,Nat.reduceLT,Nat.reduceEqDiff,Nat.reduceAdd,Nat.reduceLeDiff,g0,g1,g5,encP_eq,f1,f2,hi']
          exact ⟨_,_,_,_,rfl,.inr ⟨by simp,rfl,by omega,.inr ⟨rfl,hb.symm,by simp (disch:=first|assumption|omega|(simp (disch:=first|assumption|omega) only [sB,Nat.reduceAdd,Nat.reduceLT,Nat.reduceLeDiff,Nat.reduceEqDiff,Nat.reduceMul,↓reduceIte];done)|fail) only [sA,↓reduceIte,Nat.reduceLT,Nat.reduceEqDiff,Nat.reduceAdd,Nat.reduceLeDiff]⟩⟩⟩)
    ⟨rfl,by omega,by rw [List.drop_zero,List.drop_zero]; exact hB,by simp (disch:=first|assumption|omega|(simp (disch:=first|assumption|omega) only [sB,Nat.reduceAdd,Nat.reduceLT,Nat.reduceLeDiff,Nat.reduceEqDiff,Nat.reduceMul,↓reduceIte];done)|fail) only [sA,↓reduceIte,Nat.reduceLT,Nat.reduceEqDiff,Nat.reduceAdd,Nat.reduceLeDiff],by simp (disch:=first|assumption|omega|(simp (disch:=first|assumption|omega) only [sB,Nat.reduceAdd,Nat.reduceLT,Nat.reduceLeDiff,Nat.reduceEqDiff,Nat.reduceMul,↓reduceIte];done)|fail) only [sA,↓reduceIte,Nat.reduceLT,Nat.reduceEqDiff,Nat.reduceAdd,Nat.reduceLeDiff],by simp (disch:=first|assumption|omega|(simp (disch:=first|assumption|omega) only [sB,Nat.reduceAdd,Nat.reduceLT,Nat.reduceLeDiff,Nat.reduceEqDiff,Nat.reduceMul,↓reduceIte];done)|fail) only [sA,↓reduceIte,Nat.reduceLT,Nat.reduceEqDiff,Nat.reduceAdd,Nat.reduceLeDiff]⟩
  rcases q with ⟨rfl,hb⟩ | ⟨rfl,hb,g4⟩
  · rw [hb]
    simp (disch:=first|assumption|omega|(simp (disch:=first|assumption|omega) only [sB,Nat.reduceAdd,Nat.reduceLT,Nat.reduceLeDiff,Nat.reduceEqDiff,Nat.reduceMul,↓reduceIte];done)|fail) only [sA,↓reduceIte,Nat.reduceLT,Nat.reduceEqDiff,Nat.reduceAdd,Nat.reduceLeDiff]
  · rw [hb]
    simp (disch:=first|assumption|omega|(simp (disch:=first|assumption|omega) only [sB,Nat.reduceAdd,Nat.reduceLT,Nat.reduceLeDiff,Nat.reduceEqDiff,Nat.reduceMul,↓reduceIte];done)|fail) only [sA,↓reduceIte,Nat.reduceLT,Nat.reduceEqDiff,Nat.reduceAdd,Nat.reduceLeDiff,g4]

theorem sm_alive : callFn (LX (cFk kQ Tryz.prog)) 2 [] [] ((cFk kQ Tryz.prog) 15) = .ok (.bool true) 2 [] := mEB_ok.1
theorem sm_run (s t : Sl Pat) (hl : s.el.length ≤ 9223372036854775807) (hf : finPs s.el) : ∃ n' h',callFn (LX (cFk kQ Tryz.prog)) 0 [] [slD 3 encP s,slD 3 encP t] ((cFk kQ Tryz.prog) 8) = .ok (.bool true) n' h' := by
  have c1 := fun n => pMatch _ s t (Nat.le_refl _) hl hf n
  have c2 := fun n => rMatch _ s t (Nat.le_refl _) hl hf n
  generalize mPs s.el t.el = B at c1 c2
  have hgn : GoodAt 0 [] := good_nil
  rw [f8_eq]; unfold c8; rw [callFn_eq (by rfl)]
  by_cases h1 : ((s.el.length : Nat) : Int) > 30
  · simp (disch:=first|assumption|omega|(simp (disch:=first|assumption|omega) only [sB,Nat.reduceAdd,Nat.reduceLT,Nat.reduceLeDiff,Nat.reduceEqDiff,Nat.reduceMul,↓reduceIte];done)|fail) only [sA,↓reduceIte,Nat.reduceLT,Nat.reduceEqDiff,Nat.reduceAdd,Nat.reduceLeDiff,sm_alive,h1]
    exact ⟨_,_,rfl⟩
  · by_cases h2 : ((t.el.length : Nat) : Int) > 30
    · simp (disch:=first|assumption|omega|(simp (disch:=first|assumption|omega) only [sB,Nat.reduceAdd,Nat.reduceLT,Nat.reduceLeDiff,Nat.reduceEqDiff,Nat.reduceMul,↓reduceIte];done)|fail) only [sA,↓reduceIte,Nat.reduceLT,Nat.reduceEqDiff,Nat.reduceAdd,Nat.reduceLeDiff,sm_alive,h1,h2]
      exact ⟨_,_,rfl⟩
    · simp (disch:=first|assumption|omega|(simp (disch:=first|assumption|omega) only [sB,Nat.reduceAdd,Nat.reduceLT,Nat.reduceLeDiff,Nat.reduceEqDiff,Nat.reduceMul,↓reduceIte];done)|fail) only [sA,↓reduceIte,Nat.reduceLT,Nat.reduceEqDiff,Nat.reduceAdd,Nat.reduceLeDiff,sm_alive,h1,h2,c1,c2]
      exact ⟨_,_,rfl⟩

set_option maxRecDepth 100000 in
theorem sm_lifted (os : Os) (started : os.Started) (H : Type) (enc : TypeId × Value → H) :
    ReturnsInHanded {} Tryz.checked os 8 .any (Rows.splitMatchesSpec.pre6 enc Tryz.prog Tryz.f8 Rows.splitMatchesRow.domain false) (Rows.splitMatchesSpec.post enc Tryz.prog Tryz.f8 false true false false) := by
  refine law_lifted (K := kQ) (C := Tryz.checked) (tb := 4) own started (by kernel_rfl) Tryz.func8
    (ChangeSpec.witness6 (enc := enc) (C := Tryz.checked) false ⟨#[],#[.slice none 0 0,.slice none 0 0],[]⟩ 8 (by kernel_rfl) (by kernel_rfl) (by kernel_rfl) (by kernel_rfl))
    mixed laidOut rowed_maps full_slices (by kernel_rfl) rfl (by kernel_rfl) rfl ?_ ?_
  · intro ds hl
    match ds,hl with
    | [_,_],_ => rfl
  · intro ds l hA
    have hA : ArgsAre Tryz.prog [28,28] ds l := hA
    obtain ⟨x,y,f,g,rfl,h1,h2⟩ := args_two hA
    obtain ⟨s,e1,_,l1,f1⟩ := pats_arg _ _ h1
    obtain ⟨t,e2,_⟩ := pats_arg _ _ h2
    rw [e1,e2]
    exact sm_run s t l1 f1

theorem SplitMatches_holds : Rows.SplitMatchesSaid :=
  OpenClaim.holds_of_wide 8 Tryz.f8 rfl rfl rfl rfl rfl rfl rfl ⟨rfl,rfl,rfl,rfl,rfl⟩ rfl rfl rfl rfl rfl (by kernel_rfl) Tryz.func8 (by kernel_rfl)
    (of_decide_eq_true (by kernel_rfl)) (by unfold Func.isWrapper; first | (rw [if_pos (by decide +kernel)]; kernel_rfl) | (rw [if_neg (by decide +kernel)]; exact ⟨rfl,rfl⟩))
    (fun os started H enc _ => sm_lifted os started H enc)
end Go.Proofs.YtknnbjoagigmgaaGreat
