/- A tree's size, as the law counts it; the reference's answer to a tree and values. No condition but sizes. -/
import Derived.Test.YtknnbjoagigmgaaGreatMR
set_option linter.unusedSimpArgs false
set_option linter.unusedVariables false
namespace Go.Proofs.YtknnbjoagigmgaaGreat
open Go

set_option maxHeartbeats 4000000 in
theorem pSize : ∀ (m : Nat) (t : Tre),sizeR t ≤ m → m < 1000000000 → ∀ n,callFn (LX (cFk kQ Tryz.prog)) n [] [encW t,.int .i64 500] (cFk kQ Tryz.prog 16) = .ok (.int .i64 (szR t : Nat)) n [] := by
  intro m
  induction m using Nat.strongRecOn with
  | _ m ih =>
  intro t hm hm1 n
  have hg : ∀ k,n ≤ k → GoodAt k [] := fun _ _ => good_nil
  have zt := sizeR_eq t
  have ll := lenR_le t.sub.el
  rw [encW_eq]
  generalize hV : szR t = V
  rw [szR_eq] at hV
  rw [f16_eq]; unfold c16; rw [callFn_eq (by rfl)]
  simp (disch:=first|assumption|omega|(simp (disch:=first|assumption|omega) only [sB,Nat.reduceAdd,Nat.reduceLT,Nat.reduceLeDiff,Nat.reduceEqDiff,Nat.reduceMul,↓reduceIte];done)|fail) only [sA,↓reduceIte,Nat.reduceLT,Nat.reduceEqDiff,Nat.reduceAdd,Nat.reduceLeDiff]
  have H0 : Hp n [] (n + 1) [(n,.row 5 [boxW t])] := (Hp.start hg).cons (Nat.le_refl _) (by omega) (fun k _ => lowO_one (lowW k t))
  generalize hr : LX (cFk kQ Tryz.prog) (.loop l16_0) _ _ _ = r
  obtain ⟨x,e2,n2,h2,rfl,rfl,rfl,H2,g5⟩ := loop_up hr t.sub.el.length
    (fun i e n' h' => h' = [(n,.row 5 [boxW t])] ∧ n + 1 ≤ n' ∧ ∃ acc : Nat,szRs (t.sub.el.drop i) acc = V ∧ acc + sizeRs (t.sub.el.drop i) ≤ 1000000000 ∧ get (po 1) e = .int .i64 500 ∧ get (po 2) e = .ptr n 0 0 ∧ get (po 5) e = .int .i64 (acc : Nat) ∧ get (po 6) e = .int .i64 (i : Nat))
    (fun x e n' h' => x = .exit 0 ∧ h' = [(n,.row 5 [boxW t])] ∧ n + 1 ≤ n' ∧ get (po 5) e = .int .i64 (V : Nat))
    (by
      rintro e n' h' ⟨rfl,p1,acc,hv,hz,g1,g2,g5,g6⟩
      rw [List.drop_length,szRs] at hv
      subst hv
      unfold l16_0
      simp (disch:=first|assumption|omega|(simp (disch:=first|assumption|omega) only [sB,Nat.reduceAdd,Nat.reduceLT,Nat.reduceLeDiff,Nat.reduceEqDiff,Nat.reduceMul,↓reduceIte];done)|fail) only [sA,↓reduceIte,Nat.reduceLT,Nat.reduceEqDiff,Nat.reduceAdd,Nat.reduceLeDiff,g1,g2,g5,g6]
      exact ⟨_,_,_,_,rfl,by simp,rfl,rfl,by omega,by simp (disch:=first|assumption|omega|(simp (disch:=first|assumption|omega) only [sB,Nat.reduceAdd,Nat.reduceLT,Nat.reduceLeDiff,Nat.reduceEqDiff,Nat.reduceMul,↓reduceIte];done)|fail) only [sA,↓reduceIte,Nat.reduceLT,Nat.reduceEqDiff,Nat.reduceAdd,Nat.reduceLeDiff,g5]⟩)
    (by
      rintro i e n' h' hi ⟨rfl,p1,acc,hv,hz,g1,g2,g5,g6⟩
      rw [List.drop_eq_getElem_cons hi,szRs_cons] at hv
      rw [List.drop_eq_getElem_cons hi,sizeRs_cons] at hz
      have k1 := sizeR_mem (List.getElem_mem hi)
      have k2 := szR_le t.sub.el[i]
      have c1 := fun q => ih (sizeR t.sub.el[i]) (by omega) t.sub.el[i] (Nat.le_refl _) (by omega) q
      rw [encW_eq] at c1
      unfold l16_0
      by_cases h5 : acc ≤ 500
      · rw [if_pos h5] at hv
        simp (disch:=first|assumption|omega|(simp (disch:=first|assumption|omega) only [sB,Nat.reduceAdd,Nat.reduceLT,Nat.reduceLeDiff,Nat.reduceEqDiff,Nat.reduceMul,↓reduceIte];done)|fail) only [sA,↓reduceIte,Nat.reduceLT,Nat.reduceEqDiff,Nat.reduceAdd,Nat.reduceLeDiff,g1,g2,g5,g6,encW_eq,c1]
        exact ⟨_,_,_,_,rfl,.inl ⟨rfl,rfl,by omega,acc + szR t.sub.el[i],hv,by omega,by simp (disch:=first|assumption|omega|(simp (disch:=first|assumption|omega) only [sB,Nat.reduceAdd,Nat.reduceLT,Nat.reduceLeDiff,Nat.reduceEqDiff,Nat.reduceMul,↓reduceIte];done)|fail) only [sA,↓reduceIte,Nat.reduceLT,Nat.reduceEqDiff,Nat.reduceAdd,Nat.reduceLeDiff,g1],by simp (disch:=first|assumption|omega|(simp (disch:=first|assumption|omega) only [sB,Nat.reduceAdd,Nat.reduceLT,Nat.reduceLeDiff,Nat.reduceEqDiff,Nat.reduceMul,↓reduceIte];done)|fail) only [sA,↓reduceIte,Nat.reduceLT,Nat.reduceEqDiff,Nat.reduceAdd,Nat.reduceLeDiff,g2],by simp (disch:=first|assumption|omega|(simp (disch:=first|assumption|omega) only [sB,Nat.reduceAdd,Nat.reduceLT,Nat.reduceLeDiff,Nat.reduceEqDiff,Nat.reduceMul,↓reduceIte];done)|fail) only [sA,↓reduceIte,Nat.reduceLT,Nat.reduceEqDiff,Nat.reduceAdd,Nat.reduceLeDiff],by simp (disch:=first|assumption|omega|(simp (disch:=first|assumption|omega) only [sB,Nat.reduceAdd,Nat.reduceLT,Nat.reduceLeDiff,Nat.reduceEqDiff,Nat.reduceMul,↓reduceIte];done)|fail) only [sA,↓reduceIte,Nat.reduceLT,Nat.reduceEqDiff,Nat.reduceAdd,Nat.reduceLeDiff]⟩⟩
      · rw [if_neg h5] at hv
        subst hv
        simp (disch:=first|assumption|omega|(simp (disch:=first|assumption|omega) only [sB,Nat.reduceAdd,Nat.reduceLT,Nat.reduceLeDiff,Nat.reduceEqDiff,Nat.reduceMul,↓reduceIte];done)|fail) only [sA,↓reduceIte,Nat.reduceLT,Nat.reduceEqDiff,Nat.reduceAdd,Nat.reduceLeDiff,g1,g2,g5,g6,encW_eq,c1]
        exact ⟨_,_,_,_,rfl,.inr ⟨by simp,rfl,rfl,by omega,by simp (disch:=first|assumption|omega|(simp (disch:=first|assumption|omega) only [sB,Nat.reduceAdd,Nat.reduceLT,Nat.reduceLeDiff,Nat.reduceEqDiff,Nat.reduceMul,↓reduceIte];done)|fail) only [sA,↓reduceIte,Nat.reduceLT,Nat.reduceEqDiff,Nat.reduceAdd,Nat.reduceLeDiff,g5]⟩⟩)
    ⟨rfl,by omega,1,by rw [List.drop_zero]; exact hV,by rw [List.drop_zero]; omega,by simp (disch:=first|assumption|omega|(simp (disch:=first|assumption|omega) only [sB,Nat.reduceAdd,Nat.reduceLT,Nat.reduceLeDiff,Nat.reduceEqDiff,Nat.reduceMul,↓reduceIte];done)|fail) only [sA,↓reduceIte,Nat.reduceLT,Nat.reduceEqDiff,Nat.reduceAdd,Nat.reduceLeDiff],by simp (disch:=first|assumption|omega|(simp (disch:=first|assumption|omega) only [sB,Nat.reduceAdd,Nat.reduceLT,Nat.reduceLeDiff,Nat.reduceEqDiff,Nat.reduceMul,↓reduceIte];done)|fail) only [sA,↓reduceIte,Nat.reduceLT,Nat.reduceEqDiff,Nat.reduceAdd,Nat.reduceLeDiff],by simp (disch:=first|assumption|omega|(simp (disch:=first|assumption|omega) only [sB,Nat.reduceAdd,Nat.reduceLT,Nat.reduceLeDiff,Nat.reduceEqDiff,Nat.reduceMul,↓reduceIte];done)|fail) only [sA,↓reduceIte,Nat.reduceLT,Nat.reduceEqDiff,Nat.reduceAdd,Nat.reduceLeDiff],by simp (disch:=first|assumption|omega|(simp (disch:=first|assumption|omega) only [sB,Nat.reduceAdd,Nat.reduceLT,Nat.reduceLeDiff,Nat.reduceEqDiff,Nat.reduceMul,↓reduceIte];done)|fail) only [sA,↓reduceIte,Nat.reduceLT,Nat.reduceEqDiff,Nat.reduceAdd,Nat.reduceLeDiff]⟩
  have hgn := hg n (Nat.le_refl _)
  simp (disch:=first|assumption|omega|(simp (disch:=first|assumption|omega) only [sB,Nat.reduceAdd,Nat.reduceLT,Nat.reduceLeDiff,Nat.reduceEqDiff,Nat.reduceMul,↓reduceIte];done)|fail) only [sA,↓reduceIte,Nat.reduceLT,Nat.reduceEqDiff,Nat.reduceAdd,Nat.reduceLeDiff,g5]

def nextI (r : Option Nat) : Int := match r with
  | none => -1
  | some j => (j : Nat)
theorem Bld.mem {n1 q : Nat} {h : Hps} {l : List Pat} {d : D} (B : Bld 3 encP n1 l h d) (hq : q < n1) : memN q (refO d) = false := by
  rcases B with ⟨_,rfl⟩ | ⟨r,_,hr,rfl,_⟩
  · rfl
  · show memN q [r] = false
    rw [memN_cons,memN_nil,Bool.or_false]
    exact decide_eq_false (by omega)
set_option maxHeartbeats 8000000 in
theorem rRun : ∀ (t : Tre) (s : Sl Pat),finR t → sizePs s.el ≤ 1048576 → ∀ n,callFn (LX (cFk kQ Tryz.prog)) n [] [encW t,slD 3 encP s] (cFk kQ Tryz.prog 18) = .ok (.tup [.int .i64 (runR (sizeR t) t s.el).1,.bool (runR (sizeR t) t s.el).2]) n [] := by
  intro t s hf hs n
  have hg : ∀ k,n ≤ k → GoodAt k [] := fun _ _ => good_nil
  generalize hB : runR (sizeR t) t s.el = B
  rw [encW_eq]
  rw [f18_eq]; unfold c18; rw [callFn_eq (by rfl)]
  simp (disch:=first|assumption|omega|(simp (disch:=first|assumption|omega) only [sB,Nat.reduceAdd,Nat.reduceLT,Nat.reduceLeDiff,Nat.reduceEqDiff,Nat.reduceMul,↓reduceIte];done)|fail) only [sA,↓reduceIte,Nat.reduceLT,Nat.reduceEqDiff,Nat.reduceAdd,Nat.reduceLeDiff]
  have H0 : Hp n [] (n + 1) [(n,.row 5 [boxW t])] := (Hp.start hg).cons (Nat.le_refl _) (by omega) (fun k _ => lowO_one (lowW k t))
  generalize hr : LX (cFk kQ Tryz.prog) (.loop l18_1) _ _ _ = r
  obtain ⟨x,e2,n2,h2,rfl,rfl,H2,g4,g5⟩ := loop_at hr
    (fun f e n' h' => Hp n [] n' h' ∧ n + 1 ≤ n' ∧ ∃ (t' : Tre) (l : List Pat) (d : D),sizeR t' ≤ f ∧ finR t' ∧ sizePs l ≤ 1048576 ∧ runR f t' l = B ∧ getO h' n = .row 5 [boxW t'] ∧ Rv false n' h' d l ∧ get (po 1) e = d ∧ get (po 2) e = .ptr n 0 0)
    (fun x e n' h' => x = .ret ∧ Hp n [] n' h' ∧ get (po 4) e = .int .i64 B.1 ∧ get (po 5) e = .bool B.2)
    (by
      rintro f e n' h' ⟨H,p1,t',l,d,zf,hf',hs',hR,b,V,g1,g2⟩
      obtain ⟨f,rfl⟩ : ∃ i,f = i + 1 := ⟨f - 1,by have := sizeR_eq t'; omega⟩
      have w1 := V.len
      have hll := lenP_le l
      unfold l18_1
      rw [runR] at hR
      cases hlf : t'.leaf with
      | true =>
        rw [hlf,if_pos rfl] at hR
        have b' := b
        rw [boxW,hlf] at b'
        rw [← hR]
        simp (disch:=first|assumption|omega|(simp (disch:=first|assumption|omega) only [sB,Nat.reduceAdd,Nat.reduceLT,Nat.reduceLeDiff,Nat.reduceEqDiff,Nat.reduceMul,↓reduceIte];done)|fail) only [sA,↓reduceIte,Nat.reduceLT,Nat.reduceEqDiff,Nat.reduceAdd,Nat.reduceLeDiff,g1,g2,b']
        exact ⟨_,_,_,_,rfl,.inr ⟨by simp,rfl,H.mono (by omega),by simp (disch:=first|assumption|omega|(simp (disch:=first|assumption|omega) only [sB,Nat.reduceAdd,Nat.reduceLT,Nat.reduceLeDiff,Nat.reduceEqDiff,Nat.reduceMul,↓reduceIte];done)|fail) only [sA,↓reduceIte,Nat.reduceLT,Nat.reduceEqDiff,Nat.reduceAdd,Nat.reduceLeDiff],by simp (disch:=first|assumption|omega|(simp (disch:=first|assumption|omega) only [sB,Nat.reduceAdd,Nat.reduceLT,Nat.reduceLeDiff,Nat.reduceEqDiff,Nat.reduceMul,↓reduceIte];done)|fail) only [sA,↓reduceIte,Nat.reduceLT,Nat.reduceEqDiff,Nat.reduceAdd,Nat.reduceLeDiff]⟩⟩
      | false =>
        rw [hlf,if_neg (by simp)] at hR
        have b' := b
        rw [boxW,hlf] at b'
        by_cases a0 : t'.at' < 0
        · have hR' : B = (0,false) := by
            rw [← hR]
            split
            · rw [if_neg (fun h => by omega)]
            · rfl
          rw [hR']
          simp (disch:=first|assumption|omega|(simp (disch:=first|assumption|omega) only [sB,Nat.reduceAdd,Nat.reduceLT,Nat.reduceLeDiff,Nat.reduceEqDiff,Nat.reduceMul,↓reduceIte];done)|fail) only [sA,↓reduceIte,Nat.reduceLT,Nat.reduceEqDiff,Nat.reduceAdd,Nat.reduceLeDiff,g1,g2,b',w1,a0]
          exact ⟨_,_,_,_,rfl,.inr ⟨by simp,rfl,H.mono (by omega),by simp (disch:=first|assumption|omega|(simp (disch:=first|assumption|omega) only [sB,Nat.reduceAdd,Nat.reduceLT,Nat.reduceLeDiff,Nat.reduceEqDiff,Nat.reduceMul,↓reduceIte];done)|fail) only [sA,↓reduceIte,Nat.reduceLT,Nat.reduceEqDiff,Nat.reduceAdd,Nat.reduceLeDiff],by simp (disch:=first|assumption|omega|(simp (disch:=first|assumption|omega) only [sB,Nat.reduceAdd,Nat.reduceLT,Nat.reduceLeDiff,Nat.reduceEqDiff,Nat.reduceMul,↓reduceIte];done)|fail) only [sA,↓reduceIte,Nat.reduceLT,Nat.reduceEqDiff,Nat.reduceAdd,Nat.reduceLeDiff]⟩⟩
        · obtain ⟨at0,ha⟩ : ∃ a : Nat,t'.at' = (a : Int) := ⟨t'.at'.toNat,by omega⟩
          rw [ha] at hR b' a0
          have e0 : ((at0 : Nat) : Int).toNat = at0 := Int.toNat_natCast at0
          simp only [e0] at hR
          by_cases a1 : at0 < l.length
          case neg =>
            rw [dif_neg a1] at hR
            have a1' : ((at0 : Nat) : Int) ≥ ((l.length : Nat) : Int) := by omega
            rw [← hR]
            simp (disch:=first|assumption|omega|(simp (disch:=first|assumption|omega) only [sB,Nat.reduceAdd,Nat.reduceLT,Nat.reduceLeDiff,Nat.reduceEqDiff,Nat.reduceMul,↓reduceIte];done)|fail) only [sA,↓reduceIte,Nat.reduceLT,Nat.reduceEqDiff,Nat.reduceAdd,Nat.reduceLeDiff,g1,g2,b',w1,a0,a1']
            exact ⟨_,_,_,_,rfl,.inr ⟨by simp,rfl,H.mono (by omega),by simp (disch:=first|assumption|omega|(simp (disch:=first|assumption|omega) only [sB,Nat.reduceAdd,Nat.reduceLT,Nat.reduceLeDiff,Nat.reduceEqDiff,Nat.reduceMul,↓reduceIte];done)|fail) only [sA,↓reduceIte,Nat.reduceLT,Nat.reduceEqDiff,Nat.reduceAdd,Nat.reduceLeDiff],by simp (disch:=first|assumption|omega|(simp (disch:=first|assumption|omega) only [sB,Nat.reduceAdd,Nat.reduceLT,Nat.reduceLeDiff,Nat.reduceEqDiff,Nat.reduceMul,↓reduceIte];done)|fail) only [sA,↓reduceIte,Nat.reduceLT,Nat.reduceEqDiff,Nat.reduceAdd,Nat.reduceLeDiff]⟩⟩
          rw [dif_pos a1] at hR
          obtain ⟨ad,ad0,v1,v2,v3,v4⟩ := V.at a1
          have v3' := fun m => v3 m h' (fun _ _ _ _ => rfl)
          have v4' := fun m => v4 m h' (fun _ _ _ _ => rfl)
          have a1' : ¬ ((at0 : Nat) : Int) ≥ ((l.length : Nat) : Int) := by omega
          by_cases f2 : l[at0].form = 2
          case neg =>
            rw [if_neg (fun h => f2 h.2)] at hR
            rw [← hR]
            simp (disch:=first|assumption|omega|(simp (disch:=first|assumption|omega) only [sB,Nat.reduceAdd,Nat.reduceLT,Nat.reduceLeDiff,Nat.reduceEqDiff,Nat.reduceMul,↓reduceIte];done)|fail) only [sA,↓reduceIte,Nat.reduceLT,Nat.reduceEqDiff,Nat.reduceAdd,Nat.reduceLeDiff,g1,g2,b',w1,a0,a1',v1,v2,v3',v4',f2]
            exact ⟨_,_,_,_,rfl,.inr ⟨by simp,rfl,H.mono (by omega),by simp (disch:=first|assumption|omega|(simp (disch:=first|assumption|omega) only [sB,Nat.reduceAdd,Nat.reduceLT,Nat.reduceLeDiff,Nat.reduceEqDiff,Nat.reduceMul,↓reduceIte];done)|fail) only [sA,↓reduceIte,Nat.reduceLT,Nat.reduceEqDiff,Nat.reduceAdd,Nat.reduceLeDiff],by simp (disch:=first|assumption|omega|(simp (disch:=first|assumption|omega) only [sB,Nat.reduceAdd,Nat.reduceLT,Nat.reduceLeDiff,Nat.reduceEqDiff,Nat.reduceMul,↓reduceIte];done)|fail) only [sA,↓reduceIte,Nat.reduceLT,Nat.reduceEqDiff,Nat.reduceAdd,Nat.reduceLeDiff]⟩⟩
          rw [if_pos ⟨by omega,f2⟩] at hR
          simp (disch:=first|assumption|omega|(simp (disch:=first|assumption|omega) only [sB,Nat.reduceAdd,Nat.reduceLT,Nat.reduceLeDiff,Nat.reduceEqDiff,Nat.reduceMul,↓reduceIte];done)|fail) only [sA,↓reduceIte,Nat.reduceLT,Nat.reduceEqDiff,Nat.reduceAdd,Nat.reduceLeDiff,g1,g2,b',w1,a0,a1',v1,v2,v3',v4',f2]
          generalize hP : l[at0] = P at hR
          have hsz := size_next a1
          rw [hP] at hsz
          generalize hR0 : hitF t'.names.el t'.sub.el.length P.name 0 = R at hR
          have hbx : flat (.agg [.int .i64 2,.str P.name,slD 3 encP P.kids]) = true := by rw [flat_agg]; simp [flat1_slD,flat1_int,flat1_str]
          generalize hr : LX (cFk kQ Tryz.prog) (.loop l18_0) _ _ _ = r2
          obtain ⟨hC,ehC⟩ : ∃ hC,hC = (n' + 26,Ob.row 3 [.agg [.int .i64 2,.str P.name,slD 3 encP P.kids]]) :: h' := ⟨_,rfl⟩
          rw [← ehC] at hr
          have HC : Hp n [] (n' + 27) hC := by rw [ehC]; exact H.box (r := n' + 26) (m := n' + 27) (by omega) (by omega) hbx
          have bC : getO hC n = .row 5 [boxW t'] := by rw [ehC,getO_tl (by omega)]; exact b
          have bq : getO hC (n' + 26) = .row 3 [.agg [.int .i64 2,.str P.name,slD 3 encP P.kids]] := by rw [ehC,getO_hd]
          have hz : getO h' (n' + 26) = .none := by
            cases hz : getO h' (n' + 26) with
            | none => rfl
            | _ => have := getO_low (H.good n' (Nat.le_refl _)) (r := n' + 26) (by rw [hz]; simp); omega
          have bC' := bC
          rw [boxW,hlf,ha] at bC'
          have hfn := hf'
          rw [finR_eq] at hfn
          obtain ⟨x,e3,n3,h3,rfl,rfl,rfl,q1,g1',g2',g6',g7'⟩ := loop_up hr t'.names.el.length
            (fun i e m g => g = hC ∧ n' + 27 ≤ m ∧ get (po 1) e = d ∧ get (po 2) e = .ptr n 0 0 ∧ get (po 6) e = .ptr (n' + 26) 0 0 ∧ get (po 8) e = .int .i64 (i : Nat) ∧
              ((get (po 7) e = .int .i64 (-1) ∧ hitF (t'.names.el.drop i) t'.sub.el.length P.name i = R) ∨ ∃ j : Nat,get (po 7) e = .int .i64 (j : Nat) ∧ R = some j))
            (fun x e m g => x = .exit 2 ∧ g = hC ∧ n' + 27 ≤ m ∧ get (po 1) e = d ∧ get (po 2) e = .ptr n 0 0 ∧ get (po 6) e = .ptr (n' + 26) 0 0 ∧ get (po 7) e = .int .i64 (nextI R))
            (by
              rintro e m g ⟨rfl,q1,g1,g2,g6,g8,hh⟩
              have hn : get (po 7) e = .int .i64 (nextI R) := by
                rcases hh with ⟨g7,hh⟩ | ⟨j,g7,hh⟩
                · rw [List.drop_length,hitF] at hh; rw [g7,← hh]; rfl
                · rw [g7,hh]; rfl
              unfold l18_0
              simp (disch:=first|assumption|omega|(simp (disch:=first|assumption|omega) only [sB,Nat.reduceAdd,Nat.reduceLT,Nat.reduceLeDiff,Nat.reduceEqDiff,Nat.reduceMul,↓reduceIte];done)|fail) only [sA,↓reduceIte,Nat.reduceLT,Nat.reduceEqDiff,Nat.reduceAdd,Nat.reduceLeDiff,g1,g2,g6,g8,bC',hn]
              exact ⟨_,_,_,_,rfl,by simp,rfl,rfl,by omega,by simp (disch:=first|assumption|omega|(simp (disch:=first|assumption|omega) only [sB,Nat.reduceAdd,Nat.reduceLT,Nat.reduceLeDiff,Nat.reduceEqDiff,Nat.reduceMul,↓reduceIte];done)|fail) only [sA,↓reduceIte,Nat.reduceLT,Nat.reduceEqDiff,Nat.reduceAdd,Nat.reduceLeDiff,g1],by simp (disch:=first|assumption|omega|(simp (disch:=first|assumption|omega) only [sB,Nat.reduceAdd,Nat.reduceLT,Nat.reduceLeDiff,Nat.reduceEqDiff,Nat.reduceMul,↓reduceIte];done)|fail) only [sA,↓reduceIte,Nat.reduceLT,Nat.reduceEqDiff,Nat.reduceAdd,Nat.reduceLeDiff,g2],by simp (disch:=first|assumption|omega|(simp (disch:=first|assumption|omega) only [sB,Nat.reduceAdd,Nat.reduceLT,Nat.reduceLeDiff,Nat.reduceEqDiff,Nat.reduceMul,↓reduceIte];done)|fail) only [sA,↓reduceIte,Nat.reduceLT,Nat.reduceEqDiff,Nat.reduceAdd,Nat.reduceLeDiff,g6],by simp (disch:=first|assumption|omega|(simp (disch:=first|assumption|omega) only [sB,Nat.reduceAdd,Nat.reduceLT,Nat.reduceLeDiff,Nat.reduceEqDiff,Nat.reduceMul,↓reduceIte];done)|fail) only [sA,↓reduceIte,Nat.reduceLT,Nat.reduceEqDiff,Nat.reduceAdd,Nat.reduceLeDiff,hn]⟩)
            (by
              rintro i e m g hi ⟨rfl,q1,g1,g2,g6,g8,hh⟩
              unfold l18_0
              rcases hh with ⟨g7,hh⟩ | ⟨j,g7,hh⟩
              · rw [hit_drop hi] at hh
                by_cases y2 : i < t'.sub.el.length
                case neg =>
                  have hRn : R = none := by rw [if_neg (fun h => y2 h.2),hitF_late _ _ _ _ (by omega)] at hh; exact hh.symm
                  rw [hRn]
                  simp (disch:=first|assumption|omega|(simp (disch:=first|assumption|omega) only [sB,Nat.reduceAdd,Nat.reduceLT,Nat.reduceLeDiff,Nat.reduceEqDiff,Nat.reduceMul,↓reduceIte];done)|fail) only [sA,↓reduceIte,Nat.reduceLT,Nat.reduceEqDiff,Nat.reduceAdd,Nat.reduceLeDiff,g1,g2,g6,g7,g8,bC']
                  exact ⟨_,_,_,_,rfl,.inr ⟨by simp,rfl,rfl,by omega,by simp (disch:=first|assumption|omega|(simp (disch:=first|assumption|omega) only [sB,Nat.reduceAdd,Nat.reduceLT,Nat.reduceLeDiff,Nat.reduceEqDiff,Nat.reduceMul,↓reduceIte];done)|fail) only [sA,↓reduceIte,Nat.reduceLT,Nat.reduceEqDiff,Nat.reduceAdd,Nat.reduceLeDiff,g1],by simp (disch:=first|assumption|omega|(simp (disch:=first|assumption|omega) only [sB,Nat.reduceAdd,Nat.reduceLT,Nat.reduceLeDiff,Nat.reduceEqDiff,Nat.reduceMul,↓reduceIte];done)|fail) only [sA,↓reduceIte,Nat.reduceLT,Nat.reduceEqDiff,Nat.reduceAdd,Nat.reduceLeDiff,g2],by simp (disch:=first|assumption|omega|(simp (disch:=first|assumption|omega) only [sB,Nat.reduceAdd,Nat.reduceLT,Nat.reduceLeDiff,Nat.reduceEqDiff,Nat.reduceMul,↓reduceIte];done)|fail) only [sA,↓reduceIte,Nat.reduceLT,Nat.reduceEqDiff,Nat.reduceAdd,Nat.reduceLeDiff,g6],by simp (disch:=first|assumption|omega|(simp (disch:=first|assumption|omega) only [sB,Nat.reduceAdd,Nat.reduceLT,Nat.reduceLeDiff,Nat.reduceEqDiff,Nat.reduceMul,↓reduceIte];done)|fail) only [sA,↓reduceIte,Nat.reduceLT,Nat.reduceEqDiff,Nat.reduceAdd,Nat.reduceLeDiff,g7,nextI]⟩⟩
                have m1 : ((-1 : Int) < 0) := by decide
                by_cases y1 : t'.names.el[i] = P.name
                · rw [if_pos ⟨y1,y2⟩] at hh
                  have y1' : decide (t'.names.el[i] = P.name) = true := decide_eq_true y1
                  simp (disch:=first|assumption|omega|(simp (disch:=first|assumption|omega) only [sB,Nat.reduceAdd,Nat.reduceLT,Nat.reduceLeDiff,Nat.reduceEqDiff,Nat.reduceMul,↓reduceIte];done)|fail) only [sA,↓reduceIte,Nat.reduceLT,Nat.reduceEqDiff,Nat.reduceAdd,Nat.reduceLeDiff,g1,g2,g6,g7,g8,bC',bq,encS,str_eql,y1',m1]
                  exact ⟨_,_,_,_,rfl,.inl ⟨rfl,rfl,by omega,by simp (disch:=first|assumption|omega|(simp (disch:=first|assumption|omega) only [sB,Nat.reduceAdd,Nat.reduceLT,Nat.reduceLeDiff,Nat.reduceEqDiff,Nat.reduceMul,↓reduceIte];done)|fail) only [sA,↓reduceIte,Nat.reduceLT,Nat.reduceEqDiff,Nat.reduceAdd,Nat.reduceLeDiff,g1],by simp (disch:=first|assumption|omega|(simp (disch:=first|assumption|omega) only [sB,Nat.reduceAdd,Nat.reduceLT,Nat.reduceLeDiff,Nat.reduceEqDiff,Nat.reduceMul,↓reduceIte];done)|fail) only [sA,↓reduceIte,Nat.reduceLT,Nat.reduceEqDiff,Nat.reduceAdd,Nat.reduceLeDiff,g2],by simp (disch:=first|assumption|omega|(simp (disch:=first|assumption|omega) only [sB,Nat.reduceAdd,Nat.reduceLT,Nat.reduceLeDiff,Nat.reduceEqDiff,Nat.reduceMul,↓reduceIte];done)|fail) only [sA,↓reduceIte,Nat.reduceLT,Nat.reduceEqDiff,Nat.reduceAdd,Nat.reduceLeDiff,g6],by simp (disch:=first|assumption|omega|(simp (disch:=first|assumption|omega) only [sB,Nat.reduceAdd,Nat.reduceLT,Nat.reduceLeDiff,Nat.reduceEqDiff,Nat.reduceMul,↓reduceIte];done)|fail) only [sA,↓reduceIte,Nat.reduceLT,Nat.reduceEqDiff,Nat.reduceAdd,Nat.reduceLeDiff],.inr ⟨i,by simp (disch:=first|assumption|omega|(simp (disch:=first|assumption|omega) only [sB,Nat.reduceAdd,Nat.reduceLT,Nat.reduceLeDiff,Nat.reduceEqDiff,Nat.reduceMul,↓reduceIte];done)|fail) only [sA,↓reduceIte,Nat.reduceLT,Nat.reduceEqDiff,Nat.reduceAdd,Nat.reduceLeDiff],hh.symm⟩⟩⟩
                · rw [if_neg (fun h => y1 h.1)] at hh
                  have y1' : decide (t'.names.el[i] = P.name) = false := decide_eq_false y1
                  simp (disch:=first|assumption|omega|(simp (disch:=first|assumption|omega) only [sB,Nat.reduceAdd,Nat.reduceLT,Nat.reduceLeDiff,Nat.reduceEqDiff,Nat.reduceMul,↓reduceIte];done)|fail) only [sA,↓reduceIte,Nat.reduceLT,Nat.reduceEqDiff,Nat.reduceAdd,Nat.reduceLeDiff,g1,g2,g6,g7,g8,bC',bq,encS,str_eql,y1',m1]
                  exact ⟨_,_,_,_,rfl,.inl ⟨rfl,rfl,by omega,by simp (disch:=first|assumption|omega|(simp (disch:=first|assumption|omega) only [sB,Nat.reduceAdd,Nat.reduceLT,Nat.reduceLeDiff,Nat.reduceEqDiff,Nat.reduceMul,↓reduceIte];done)|fail) only [sA,↓reduceIte,Nat.reduceLT,Nat.reduceEqDiff,Nat.reduceAdd,Nat.reduceLeDiff,g1],by simp (disch:=first|assumption|omega|(simp (disch:=first|assumption|omega) only [sB,Nat.reduceAdd,Nat.reduceLT,Nat.reduceLeDiff,Nat.reduceEqDiff,Nat.reduceMul,↓reduceIte];done)|fail) only [sA,↓reduceIte,Nat.reduceLT,Nat.reduceEqDiff,Nat.reduceAdd,Nat.reduceLeDiff,g2],by simp (disch:=first|assumption|omega|(simp (disch:=first|assumption|omega) only [sB,Nat.reduceAdd,Nat.reduceLT,Nat.reduceLeDiff,Nat.reduceEqDiff,Nat.reduceMul,↓reduceIte];done)|fail) only [sA,↓reduceIte,Nat.reduceLT,Nat.reduceEqDiff,Nat.reduceAdd,Nat.reduceLeDiff,g6],by simp (disch:=first|assumption|omega|(simp (disch:=first|assumption|omega) only [sB,Nat.reduceAdd,Nat.reduceLT,Nat.reduceLeDiff,Nat.reduceEqDiff,Nat.reduceMul,↓reduceIte];done)|fail) only [sA,↓reduceIte,Nat.reduceLT,Nat.reduceEqDiff,Nat.reduceAdd,Nat.reduceLeDiff],.inl ⟨by simp (disch:=first|assumption|omega|(simp (disch:=first|assumption|omega) only [sB,Nat.reduceAdd,Nat.reduceLT,Nat.reduceLeDiff,Nat.reduceEqDiff,Nat.reduceMul,↓reduceIte];done)|fail) only [sA,↓reduceIte,Nat.reduceLT,Nat.reduceEqDiff,Nat.reduceAdd,Nat.reduceLeDiff,g7],hh⟩⟩⟩
              · have hn : get (po 7) e = .int .i64 (nextI R) := by rw [g7,hh]; rfl
                have j0 : ¬ ((j : Nat) : Int) < 0 := by omega
                by_cases y2 : i < t'.sub.el.length
                · simp (disch:=first|assumption|omega|(simp (disch:=first|assumption|omega) only [sB,Nat.reduceAdd,Nat.reduceLT,Nat.reduceLeDiff,Nat.reduceEqDiff,Nat.reduceMul,↓reduceIte];done)|fail) only [sA,↓reduceIte,Nat.reduceLT,Nat.reduceEqDiff,Nat.reduceAdd,Nat.reduceLeDiff,g1,g2,g6,g7,g8,bC',j0]
                  exact ⟨_,_,_,_,rfl,.inr ⟨by simp,rfl,rfl,by omega,by simp (disch:=first|assumption|omega|(simp (disch:=first|assumption|omega) only [sB,Nat.reduceAdd,Nat.reduceLT,Nat.reduceLeDiff,Nat.reduceEqDiff,Nat.reduceMul,↓reduceIte];done)|fail) only [sA,↓reduceIte,Nat.reduceLT,Nat.reduceEqDiff,Nat.reduceAdd,Nat.reduceLeDiff,g1],by simp (disch:=first|assumption|omega|(simp (disch:=first|assumption|omega) only [sB,Nat.reduceAdd,Nat.reduceLT,Nat.reduceLeDiff,Nat.reduceEqDiff,Nat.reduceMul,↓reduceIte];done)|fail) only [sA,↓reduceIte,Nat.reduceLT,Nat.reduceEqDiff,Nat.reduceAdd,Nat.reduceLeDiff,g2],by simp (disch:=first|assumption|omega|(simp (disch:=first|assumption|omega) only [sB,Nat.reduceAdd,Nat.reduceLT,Nat.reduceLeDiff,Nat.reduceEqDiff,Nat.reduceMul,↓reduceIte];done)|fail) only [sA,↓reduceIte,Nat.reduceLT,Nat.reduceEqDiff,Nat.reduceAdd,Nat.reduceLeDiff,g6],by simp (disch:=first|assumption|omega|(simp (disch:=first|assumption|omega) only [sB,Nat.reduceAdd,Nat.reduceLT,Nat.reduceLeDiff,Nat.reduceEqDiff,Nat.reduceMul,↓reduceIte];done)|fail) only [sA,↓reduceIte,Nat.reduceLT,Nat.reduceEqDiff,Nat.reduceAdd,Nat.reduceLeDiff,hn]⟩⟩
                · simp (disch:=first|assumption|omega|(simp (disch:=first|assumption|omega) only [sB,Nat.reduceAdd,Nat.reduceLT,Nat.reduceLeDiff,Nat.reduceEqDiff,Nat.reduceMul,↓reduceIte];done)|fail) only [sA,↓reduceIte,Nat.reduceLT,Nat.reduceEqDiff,Nat.reduceAdd,Nat.reduceLeDiff,g1,g2,g6,g7,g8,bC',j0]
                  exact ⟨_,_,_,_,rfl,.inr ⟨by simp,rfl,rfl,by omega,by simp (disch:=first|assumption|omega|(simp (disch:=first|assumption|omega) only [sB,Nat.reduceAdd,Nat.reduceLT,Nat.reduceLeDiff,Nat.reduceEqDiff,Nat.reduceMul,↓reduceIte];done)|fail) only [sA,↓reduceIte,Nat.reduceLT,Nat.reduceEqDiff,Nat.reduceAdd,Nat.reduceLeDiff,g1],by simp (disch:=first|assumption|omega|(simp (disch:=first|assumption|omega) only [sB,Nat.reduceAdd,Nat.reduceLT,Nat.reduceLeDiff,Nat.reduceEqDiff,Nat.reduceMul,↓reduceIte];done)|fail) only [sA,↓reduceIte,Nat.reduceLT,Nat.reduceEqDiff,Nat.reduceAdd,Nat.reduceLeDiff,g2],by simp (disch:=first|assumption|omega|(simp (disch:=first|assumption|omega) only [sB,Nat.reduceAdd,Nat.reduceLT,Nat.reduceLeDiff,Nat.reduceEqDiff,Nat.reduceMul,↓reduceIte];done)|fail) only [sA,↓reduceIte,Nat.reduceLT,Nat.reduceEqDiff,Nat.reduceAdd,Nat.reduceLeDiff,g6],by simp (disch:=first|assumption|omega|(simp (disch:=first|assumption|omega) only [sB,Nat.reduceAdd,Nat.reduceLT,Nat.reduceLeDiff,Nat.reduceEqDiff,Nat.reduceMul,↓reduceIte];done)|fail) only [sA,↓reduceIte,Nat.reduceLT,Nat.reduceEqDiff,Nat.reduceAdd,Nat.reduceLeDiff,hn]⟩⟩)
            ⟨rfl,by omega,by simp (disch:=first|assumption|omega|(simp (disch:=first|assumption|omega) only [sB,Nat.reduceAdd,Nat.reduceLT,Nat.reduceLeDiff,Nat.reduceEqDiff,Nat.reduceMul,↓reduceIte];done)|fail) only [sA,↓reduceIte,Nat.reduceLT,Nat.reduceEqDiff,Nat.reduceAdd,Nat.reduceLeDiff,g1],by simp (disch:=first|assumption|omega|(simp (disch:=first|assumption|omega) only [sB,Nat.reduceAdd,Nat.reduceLT,Nat.reduceLeDiff,Nat.reduceEqDiff,Nat.reduceMul,↓reduceIte];done)|fail) only [sA,↓reduceIte,Nat.reduceLT,Nat.reduceEqDiff,Nat.reduceAdd,Nat.reduceLeDiff,g2],by simp (disch:=first|assumption|omega|(simp (disch:=first|assumption|omega) only [sB,Nat.reduceAdd,Nat.reduceLT,Nat.reduceLeDiff,Nat.reduceEqDiff,Nat.reduceMul,↓reduceIte];done)|fail) only [sA,↓reduceIte,Nat.reduceLT,Nat.reduceEqDiff,Nat.reduceAdd,Nat.reduceLeDiff],by simp (disch:=first|assumption|omega|(simp (disch:=first|assumption|omega) only [sB,Nat.reduceAdd,Nat.reduceLT,Nat.reduceLeDiff,Nat.reduceEqDiff,Nat.reduceMul,↓reduceIte];done)|fail) only [sA,↓reduceIte,Nat.reduceLT,Nat.reduceEqDiff,Nat.reduceAdd,Nat.reduceLeDiff],.inl ⟨by simp (disch:=first|assumption|omega|(simp (disch:=first|assumption|omega) only [sB,Nat.reduceAdd,Nat.reduceLT,Nat.reduceLeDiff,Nat.reduceEqDiff,Nat.reduceMul,↓reduceIte];done)|fail) only [sA,↓reduceIte,Nat.reduceLT,Nat.reduceEqDiff,Nat.reduceAdd,Nat.reduceLeDiff],by rw [List.drop_zero]; exact hR0⟩⟩
          cases R with
          | none =>
            have m1 : ((-1 : Int) < 0) := by decide
            rw [← hR]
            simp (disch:=first|assumption|omega|(simp (disch:=first|assumption|omega) only [sB,Nat.reduceAdd,Nat.reduceLT,Nat.reduceLeDiff,Nat.reduceEqDiff,Nat.reduceMul,↓reduceIte];done)|fail) only [sA,↓reduceIte,Nat.reduceLT,Nat.reduceEqDiff,Nat.reduceAdd,Nat.reduceLeDiff,g7',nextI,m1]
            exact ⟨_,_,_,_,rfl,.inr ⟨by simp,rfl,HC.mono (by omega),by simp (disch:=first|assumption|omega|(simp (disch:=first|assumption|omega) only [sB,Nat.reduceAdd,Nat.reduceLT,Nat.reduceLeDiff,Nat.reduceEqDiff,Nat.reduceMul,↓reduceIte];done)|fail) only [sA,↓reduceIte,Nat.reduceLT,Nat.reduceEqDiff,Nat.reduceAdd,Nat.reduceLeDiff],by simp (disch:=first|assumption|omega|(simp (disch:=first|assumption|omega) only [sB,Nat.reduceAdd,Nat.reduceLT,Nat.reduceLeDiff,Nat.reduceEqDiff,Nat.reduceMul,↓reduceIte];done)|fail) only [sA,↓reduceIte,Nat.reduceLT,Nat.reduceEqDiff,Nat.reduceAdd,Nat.reduceLeDiff]⟩⟩
          | some j =>
            have hj : j < t'.sub.el.length := hitF_lt hR0
            replace hR : (if hi : j < t'.sub.el.length then runR f (t'.sub.el[j]'hi) (l.take at0 ++ P.kids.el ++ l.drop (at0 + 1)) else (0,false)) = B := hR
            rw [dif_pos hj] at hR
            have z1 := sizeR_eq t'
            have z2 := sizeR_mem (List.getElem_mem hj)
            have j0 : ¬ ((j : Nat) : Int) < 0 := by omega
            obtain ⟨d1,u1,u2,m1⟩ := V.pre2 (show at0 ≤ l.length by omega)
            obtain ⟨d3,s1,s2,s3⟩ := V.suf (show at0 + 1 ≤ l.length from a1)
            have k1 := m1 n (.inr ⟨_,b⟩)
            have k2 := m1 (n' + 26) (.inl hz)
            have w1' : view 3 h3 d1 = .ok 3 ((l.take at0).map encP) := u2 h3 (fun q es hq _ => by rw [ehC,getO_tl (by omega)])
            have hq := lenP_le (l.take at0 ++ P.kids.el ++ l.drop (at0 + 1))
            rw [List.length_append,List.length_append] at hq
            obtain ⟨Da,Ga,A1⟩ := app_bldx (b := 48) (n1 := n' + 27) (l := []) (d := .nils) (.inl ⟨rfl,rfl⟩ : Bld 3 encP (n' + 27) [] h3 .nils) HC (by omega) (Nat.le_refl _) lowP (l.take at0) (by simp only [List.length_nil]; omega)
            obtain ⟨i1,B1,HP1,gK1,_⟩ := A1 (n3 + 4398046511106) (by omega)
            rw [List.nil_append] at B1
            obtain ⟨Db,Gb,A2⟩ := app_bldx (b := 48) (n1 := n' + 27) B1 HP1 (by omega) (by omega) lowP P.kids.el (by omega)
            obtain ⟨i2,B2,HP2,gK2,_⟩ := A2 (n3 + 7696581394434) (by omega)
            obtain ⟨Dc,Gc,A3⟩ := app_bldx (b := 48) (n1 := n' + 27) B2 HP2 (by omega) (by omega) lowP (l.drop (at0 + 1)) (by rw [List.length_append]; omega)
            obtain ⟨i3,B3,HP3,gK3,_⟩ := A3 (n3 + 14293651161090) (by omega)
            have k3 := B1.mem (show n < n' + 27 by omega)
            clear A1 A2 A3
            generalize Da (n3 + 4398046511106) = da at *
            generalize Ga (n3 + 4398046511106) = ga at *
            generalize Db (n3 + 7696581394434) = db at *
            generalize Gb (n3 + 7696581394434) = gb at *
            generalize Dc (n3 + 14293651161090) = dc at *
            generalize Gc (n3 + 14293651161090) = gc at *
            have w3 : view 3 gb d3 = .ok 3 ((l.drop (at0 + 1)).map encP) := s2 gb (fun q es hq _ => by rw [gK2 q (by omega),gK1 q (by omega),ehC,getO_tl (by omega)])
            have c1 : getO ga (n' + 26) = _ := (gK1 _ (by omega)).trans bq
            have c1' : getO ga n = _ := (gK1 _ (by omega)).trans bC'
            have c2 : getO gb n = _ := (gK2 _ (by omega)).trans c1'
            have c3 : getO gc n = _ := (gK3 _ (by omega)).trans c2
            have c5 : ∀ X,getO (setO gc n X) n = X := fun X => getO_set1 c3
            simp (disch:=first|assumption|omega|(simp (disch:=first|assumption|omega) only [sB,Nat.reduceAdd,Nat.reduceLT,Nat.reduceLeDiff,Nat.reduceEqDiff,Nat.reduceMul,↓reduceIte];done)|fail) only [sA,↓reduceIte,Nat.reduceLT,Nat.reduceEqDiff,Nat.reduceAdd,Nat.reduceLeDiff,g1',g2',g6',g7',nextI,j0,bC',bq,u1,s1,w1',i1,i2,i3,w3,c1,c2,c3,k1,k2,k3,encW_eq]
            exact ⟨_,_,_,_,rfl,.inl ⟨rfl,f,by omega,(HP3.set (r := n) (by omega) (fun k _ => lowO_one (lowW k _))).mono (by omega),by omega,t'.sub.el[j],_,dc,by omega,finR_mem hfn.2 (List.getElem_mem hj),by omega,hR,c5 _,(B3.set (q := n) c3 (by omega)).rv ((HP3.set (r := n) (by omega) (fun k _ => lowO_one (lowW k _))).good _ (by omega)),by simp (disch:=first|assumption|omega|(simp (disch:=first|assumption|omega) only [sB,Nat.reduceAdd,Nat.reduceLT,Nat.reduceLeDiff,Nat.reduceEqDiff,Nat.reduceMul,↓reduceIte];done)|fail) only [sA,↓reduceIte,Nat.reduceLT,Nat.reduceEqDiff,Nat.reduceAdd,Nat.reduceLeDiff],by simp (disch:=first|assumption|omega|(simp (disch:=first|assumption|omega) only [sB,Nat.reduceAdd,Nat.reduceLT,Nat.reduceLeDiff,Nat.reduceEqDiff,Nat.reduceMul,↓reduceIte];done)|fail) only [sA,↓reduceIte,Nat.reduceLT,Nat.reduceEqDiff,Nat.reduceAdd,Nat.reduceLeDiff,g2']⟩⟩)
    (sizeR t) ⟨H0.mono (by omega),by omega,t,s.el,slD 3 encP s,Nat.le_refl _,hf,hs,hB,by simp (disch:=first|assumption|omega|(simp (disch:=first|assumption|omega) only [sB,Nat.reduceAdd,Nat.reduceLT,Nat.reduceLeDiff,Nat.reduceEqDiff,Nat.reduceMul,↓reduceIte];done)|fail) only [sA,↓reduceIte,Nat.reduceLT,Nat.reduceEqDiff,Nat.reduceAdd,Nat.reduceLeDiff],.sl s rfl rfl,by simp (disch:=first|assumption|omega|(simp (disch:=first|assumption|omega) only [sB,Nat.reduceAdd,Nat.reduceLT,Nat.reduceLeDiff,Nat.reduceEqDiff,Nat.reduceMul,↓reduceIte];done)|fail) only [sA,↓reduceIte,Nat.reduceLT,Nat.reduceEqDiff,Nat.reduceAdd,Nat.reduceLeDiff],by simp (disch:=first|assumption|omega|(simp (disch:=first|assumption|omega) only [sB,Nat.reduceAdd,Nat.reduceLT,Nat.reduceLeDiff,Nat.reduceEqDiff,Nat.reduceMul,↓reduceIte];done)|fail) only [sA,↓reduceIte,Nat.reduceLT,Nat.reduceEqDiff,Nat.reduceAdd,Nat.reduceLeDiff]⟩
  simp (disch:=first|assumption|omega|(simp (disch:=first|assumption|omega) only [sB,Nat.reduceAdd,Nat.reduceLT,Nat.reduceLeDiff,Nat.reduceEqDiff,Nat.reduceMul,↓reduceIte];done)|fail) only [sA,↓reduceIte,Nat.reduceLT,Nat.reduceEqDiff,Nat.reduceAdd,Nat.reduceLeDiff,g4,g5]
  exact finish_flat rfl H2
end Go.Proofs.YtknnbjoagigmgaaGreat
