/- The program's answer to a tree and values. No condition but the values' size. -/
import Derived.Test.YtknnbjoagigmgaaGreatMT
import Derived.Test.YtknnbjoagigmgaaGreatCR
set_option linter.unusedSimpArgs false
set_option linter.unusedVariables false
namespace Go.Proofs.YtknnbjoagigmgaaGreat
open Go

noncomputable abbrev boxW (t : Tre) : D := .agg [.bool t.leaf,.int .i64 t.right,.int .i64 t.at',slD 1 encS t.names,slD 5 encW t.sub]
theorem lowW (m : Nat) (t : Tre) : low m (boxW t) := low_flat (flatR t)
theorem hit_drop {l : List (List Nat)} {i k : Nat} {x : List Nat} (hi : i < l.length) : hitF (l.drop i) k x i = if l[i] = x ∧ i < k then some i else hitF (l.drop (i + 1)) k x (i + 1) := by rw [List.drop_eq_getElem_cons hi,hitF]

set_option maxHeartbeats 8000000 in
theorem pRun : ∀ (t : Tre) (s : Sl Pat),finR t → sizePs s.el ≤ 1048576 → ∀ n,callFn (LX (cFk kQ Tryz.prog)) n [] [encW t,slD 3 encP s] (cFk kQ Tryz.prog 17) = .ok (.tup [.int .i64 (runR (sizeR t) t s.el).1,.bool (runR (sizeR t) t s.el).2]) n [] := by
  intro t s hf hs n
  have hg : ∀ k,n ≤ k → GoodAt k [] := fun _ _ => good_nil
  generalize hB : runR (sizeR t) t s.el = B
  rw [encW_eq]
  rw [f17_eq]; unfold c17; rw [callFn_eq (by rfl)]
  simp (disch:=first|assumption|omega|(simp (disch:=first|assumption|omega) only [sB,Nat.reduceAdd,Nat.reduceLT,Nat.reduceLeDiff,Nat.reduceEqDiff,Nat.reduceMul,↓reduceIte];done)|fail) only [sA,↓reduceIte,Nat.reduceLT,Nat.reduceEqDiff,Nat.reduceAdd,Nat.reduceLeDiff]
  have H0 : Hp n [] (n + 1) [(n,.row 5 [boxW t])] := (Hp.start hg).cons (Nat.le_refl _) (by omega) (fun k _ => lowO_one (lowW k t))
  generalize hr : LX (cFk kQ Tryz.prog) (.loop l17_1) _ _ _ = r
  obtain ⟨x,e2,n2,h2,rfl,rfl,H2,t2,b2,hB2,g2⟩ := loop_at hr
    (fun f e n' h' => Hp n [] n' h' ∧ n + 1 ≤ n' ∧ ∃ (t' : Tre) (l : List Pat) (d : D),sizeR t' ≤ f ∧ finR t' ∧ sizePs l ≤ 1048576 ∧ runR f t' l = B ∧ getO h' n = .row 5 [boxW t'] ∧ Rv true n' h' d l ∧ get (po 1) e = d ∧ get (po 2) e = .ptr n 0 0)
    (fun x e n' h' => x = .exit 0 ∧ Hp n [] n' h' ∧ ∃ t' : Tre,getO h' n = .row 5 [boxW t'] ∧ B = (if t'.leaf then (t'.right,true) else (0,false)) ∧ get (po 2) e = .ptr n 0 0)
    (by
      rintro f e n' h' ⟨H,p1,t',l,d,zf,hf',hs',hR,b,V,g1,g2⟩
      obtain ⟨f,rfl⟩ : ∃ i,f = i + 1 := ⟨f - 1,by have := sizeR_eq t'; omega⟩
      have w1 := V.len
      have hll := lenP_le l
      unfold l17_1
      rw [runR] at hR
      cases hlf : t'.leaf with
      | true =>
        rw [hlf] at hR
        have b' := b
        rw [boxW,hlf] at b'
        simp (disch:=first|assumption|omega|(simp (disch:=first|assumption|omega) only [sB,Nat.reduceAdd,Nat.reduceLT,Nat.reduceLeDiff,Nat.reduceEqDiff,Nat.reduceMul,↓reduceIte];done)|fail) only [sA,↓reduceIte,Nat.reduceLT,Nat.reduceEqDiff,Nat.reduceAdd,Nat.reduceLeDiff,g1,g2,b']
        exact ⟨_,_,_,_,rfl,.inr ⟨by simp,rfl,H.mono (by omega),t',b,by rw [hlf,if_pos rfl]; rw [if_pos rfl] at hR; exact hR.symm,by simp (disch:=first|assumption|omega|(simp (disch:=first|assumption|omega) only [sB,Nat.reduceAdd,Nat.reduceLT,Nat.reduceLeDiff,Nat.reduceEqDiff,Nat.reduceMul,↓reduceIte];done)|fail) only [sA,↓reduceIte,Nat.reduceLT,Nat.reduceEqDiff,Nat.reduceAdd,Nat.reduceLeDiff,g2]⟩⟩
      | false =>
        rw [hlf] at hR
        have b' := b
        rw [boxW,hlf] at b'
        have hN : ∀ k1 k2 : Nat,B = (0,false) → B = (if t'.leaf then (t'.right,true) else (0,false)) := fun _ _ h => by rw [hlf]; exact h
        by_cases a0 : t'.at' < 0
        · have hR' : B = (0,false) := by
            rw [← hR]
            split
            · rename_i h; cases h
            · split
              · rw [if_neg (fun h => by omega)]
              · rfl
          simp (disch:=first|assumption|omega|(simp (disch:=first|assumption|omega) only [sB,Nat.reduceAdd,Nat.reduceLT,Nat.reduceLeDiff,Nat.reduceEqDiff,Nat.reduceMul,↓reduceIte];done)|fail) only [sA,↓reduceIte,Nat.reduceLT,Nat.reduceEqDiff,Nat.reduceAdd,Nat.reduceLeDiff,g1,g2,b',w1,a0]
          exact ⟨_,_,_,_,rfl,.inr ⟨by simp,rfl,H.mono (by omega),t',b,hN 0 0 hR',by simp (disch:=first|assumption|omega|(simp (disch:=first|assumption|omega) only [sB,Nat.reduceAdd,Nat.reduceLT,Nat.reduceLeDiff,Nat.reduceEqDiff,Nat.reduceMul,↓reduceIte];done)|fail) only [sA,↓reduceIte,Nat.reduceLT,Nat.reduceEqDiff,Nat.reduceAdd,Nat.reduceLeDiff,g2]⟩⟩
        · obtain ⟨at0,ha⟩ : ∃ a : Nat,t'.at' = (a : Int) := ⟨t'.at'.toNat,by omega⟩
          rw [ha] at hR b' a0
          have e0 : ((at0 : Nat) : Int).toNat = at0 := Int.toNat_natCast at0
          simp only [e0] at hR
          by_cases a1 : at0 < l.length
          case neg =>
            have hR' : B = (0,false) := by rw [if_neg (by simp),dif_neg a1] at hR; exact hR.symm
            have a1' : ((at0 : Nat) : Int) ≥ ((l.length : Nat) : Int) := by omega
            simp (disch:=first|assumption|omega|(simp (disch:=first|assumption|omega) only [sB,Nat.reduceAdd,Nat.reduceLT,Nat.reduceLeDiff,Nat.reduceEqDiff,Nat.reduceMul,↓reduceIte];done)|fail) only [sA,↓reduceIte,Nat.reduceLT,Nat.reduceEqDiff,Nat.reduceAdd,Nat.reduceLeDiff,g1,g2,b',w1,a0,a1']
            exact ⟨_,_,_,_,rfl,.inr ⟨by simp,rfl,H.mono (by omega),t',b,hN 0 0 hR',by simp (disch:=first|assumption|omega|(simp (disch:=first|assumption|omega) only [sB,Nat.reduceAdd,Nat.reduceLT,Nat.reduceLeDiff,Nat.reduceEqDiff,Nat.reduceMul,↓reduceIte];done)|fail) only [sA,↓reduceIte,Nat.reduceLT,Nat.reduceEqDiff,Nat.reduceAdd,Nat.reduceLeDiff,g2]⟩⟩
          rw [if_neg (by simp),dif_pos a1] at hR
          obtain ⟨ad,ad0,v1,v2,v3,v4⟩ := V.at a1
          have v3' := fun m => v3 m h' (fun _ _ _ _ => rfl)
          have v4' := fun m => v4 m h' (fun _ _ _ _ => rfl)
          have a1' : ¬ ((at0 : Nat) : Int) ≥ ((l.length : Nat) : Int) := by omega
          by_cases f2 : l[at0].form = 2
          case neg =>
            rw [if_neg (fun h => f2 h.2)] at hR
            simp (disch:=first|assumption|omega|(simp (disch:=first|assumption|omega) only [sB,Nat.reduceAdd,Nat.reduceLT,Nat.reduceLeDiff,Nat.reduceEqDiff,Nat.reduceMul,↓reduceIte];done)|fail) only [sA,↓reduceIte,Nat.reduceLT,Nat.reduceEqDiff,Nat.reduceAdd,Nat.reduceLeDiff,g1,g2,b',w1,a0,a1',v1,v2,v3',v4',f2]
            exact ⟨_,_,_,_,rfl,.inr ⟨by simp,rfl,H.mono (by omega),t',b,hN 0 0 hR.symm,by simp (disch:=first|assumption|omega|(simp (disch:=first|assumption|omega) only [sB,Nat.reduceAdd,Nat.reduceLT,Nat.reduceLeDiff,Nat.reduceEqDiff,Nat.reduceMul,↓reduceIte];done)|fail) only [sA,↓reduceIte,Nat.reduceLT,Nat.reduceEqDiff,Nat.reduceAdd,Nat.reduceLeDiff,g2]⟩⟩
          rw [if_pos ⟨by omega,f2⟩] at hR
          simp (disch:=first|assumption|omega|(simp (disch:=first|assumption|omega) only [sB,Nat.reduceAdd,Nat.reduceLT,Nat.reduceLeDiff,Nat.reduceEqDiff,Nat.reduceMul,↓reduceIte];done)|fail) only [sA,↓reduceIte,Nat.reduceLT,Nat.reduceEqDiff,Nat.reduceAdd,Nat.reduceLeDiff,g1,g2,b',w1,a0,a1',v1,v2,v3',v4',f2]
          generalize hP : l[at0] = P at hR
          have hsz := size_next a1
          rw [hP] at hsz
          generalize hR0 : hitF t'.names.el t'.sub.el.length P.name 0 = R at hR
          have hbx : flat (.agg [.int .i64 2,.str P.name,slD 3 encP P.kids]) = true := by rw [flat_agg]; simp [flat1_slD,flat1_int,flat1_str]
          generalize hr : LX (cFk kQ Tryz.prog) (.loop l17_0) _ _ _ = r2
          obtain ⟨hC,ehC⟩ : ∃ hC,hC = (n' + 27,Ob.row 3 [.agg [.int .i64 2,.str P.name,slD 3 encP P.kids]]) :: h' := ⟨_,rfl⟩
          rw [← ehC] at hr
          have HC : Hp n [] (n' + 28) hC := by rw [ehC]; exact H.box (r := n' + 27) (m := n' + 28) (by omega) (by omega) hbx
          have bC : getO hC n = .row 5 [boxW t'] := by rw [ehC,getO_tl (by omega)]; exact b
          have bq : getO hC (n' + 27) = .row 3 [.agg [.int .i64 2,.str P.name,slD 3 encP P.kids]] := by rw [ehC,getO_hd]
          have VC : Rv true (n' + 28) hC d l := V.keep (by omega) (fun q es hq _ => by rw [ehC,getO_tl (by omega)])
          have bC' := bC
          rw [boxW,hlf,ha] at bC'
          have hfn := hf'
          rw [finR_eq] at hfn
          obtain ⟨x,e3,n3,h3,rfl,q⟩ := loop_up hr t'.names.el.length
            (fun i e m g => g = hC ∧ n' + 28 ≤ m ∧ hitF (t'.names.el.drop i) t'.sub.el.length P.name i = R ∧ get (po 1) e = d ∧ get (po 2) e = .ptr n 0 0 ∧ get (po 6) e = .ptr (n' + 27) 0 0 ∧ get (po 37) e = slD 1 encS t'.names ∧ get (po 38) e = .int .i64 (t'.names.el.length : Nat) ∧ get (po 39) e = .int .i64 (i : Nat))
            (fun x e m g => (x = .exit 2 ∧ R = none ∧ g = hC ∧ n' + 28 ≤ m ∧ get (po 2) e = .ptr n 0 0) ∨ (x = .exit 1 ∧ ∃ j,∃ hj : j < t'.sub.el.length,R = some j ∧ Hp n [] m g ∧ n + 1 ≤ m ∧ getO g n = .row 5 [boxW t'.sub.el[j]] ∧ ∃ d2,Rv true m g d2 (l.take at0 ++ P.kids.el ++ l.drop (at0 + 1)) ∧ get (po 1) e = d2 ∧ get (po 2) e = .ptr n 0 0))
            (by
              rintro e m g ⟨rfl,q1,hh,g1,g2,g6,g37,g38,g39⟩
              rw [List.drop_length,hitF] at hh
              unfold l17_0
              simp (disch:=first|assumption|omega|(simp (disch:=first|assumption|omega) only [sB,Nat.reduceAdd,Nat.reduceLT,Nat.reduceLeDiff,Nat.reduceEqDiff,Nat.reduceMul,↓reduceIte];done)|fail) only [sA,↓reduceIte,Nat.reduceLT,Nat.reduceEqDiff,Nat.reduceAdd,Nat.reduceLeDiff,g38,g39]
              exact ⟨_,_,_,_,rfl,by simp,.inl ⟨rfl,hh.symm,rfl,by omega,by simp (disch:=first|assumption|omega|(simp (disch:=first|assumption|omega) only [sB,Nat.reduceAdd,Nat.reduceLT,Nat.reduceLeDiff,Nat.reduceEqDiff,Nat.reduceMul,↓reduceIte];done)|fail) only [sA,↓reduceIte,Nat.reduceLT,Nat.reduceEqDiff,Nat.reduceAdd,Nat.reduceLeDiff,g2]⟩⟩)
            (by
              rintro i e m g hi ⟨rfl,q1,hh,g1,g2,g6,g37,g38,g39⟩
              rw [hit_drop hi] at hh
              unfold l17_0
              by_cases y1 : t'.names.el[i] = P.name
              case neg =>
                rw [if_neg (fun h => y1 h.1)] at hh
                have y1' : decide (t'.names.el[i] = P.name) = false := decide_eq_false y1
                simp (disch:=first|assumption|omega|(simp (disch:=first|assumption|omega) only [sB,Nat.reduceAdd,Nat.reduceLT,Nat.reduceLeDiff,Nat.reduceEqDiff,Nat.reduceMul,↓reduceIte];done)|fail) only [sA,↓reduceIte,Nat.reduceLT,Nat.reduceEqDiff,Nat.reduceAdd,Nat.reduceLeDiff,g1,g2,g6,g37,g38,g39,bC',bq,encS,str_eql,y1']
                exact ⟨_,_,_,_,rfl,.inl ⟨rfl,rfl,by omega,hh,by simp (disch:=first|assumption|omega|(simp (disch:=first|assumption|omega) only [sB,Nat.reduceAdd,Nat.reduceLT,Nat.reduceLeDiff,Nat.reduceEqDiff,Nat.reduceMul,↓reduceIte];done)|fail) only [sA,↓reduceIte,Nat.reduceLT,Nat.reduceEqDiff,Nat.reduceAdd,Nat.reduceLeDiff,g1],by simp (disch:=first|assumption|omega|(simp (disch:=first|assumption|omega) only [sB,Nat.reduceAdd,Nat.reduceLT,Nat.reduceLeDiff,Nat.reduceEqDiff,Nat.reduceMul,↓reduceIte];done)|fail) only [sA,↓reduceIte,Nat.reduceLT,Nat.reduceEqDiff,Nat.reduceAdd,Nat.reduceLeDiff,g2],by simp (disch:=first|assumption|omega|(simp (disch:=first|assumption|omega) only [sB,Nat.reduceAdd,Nat.reduceLT,Nat.reduceLeDiff,Nat.reduceEqDiff,Nat.reduceMul,↓reduceIte];done)|fail) only [sA,↓reduceIte,Nat.reduceLT,Nat.reduceEqDiff,Nat.reduceAdd,Nat.reduceLeDiff,g6],by simp (disch:=first|assumption|omega|(simp (disch:=first|assumption|omega) only [sB,Nat.reduceAdd,Nat.reduceLT,Nat.reduceLeDiff,Nat.reduceEqDiff,Nat.reduceMul,↓reduceIte];done)|fail) only [sA,↓reduceIte,Nat.reduceLT,Nat.reduceEqDiff,Nat.reduceAdd,Nat.reduceLeDiff,g37],by simp (disch:=first|assumption|omega|(simp (disch:=first|assumption|omega) only [sB,Nat.reduceAdd,Nat.reduceLT,Nat.reduceLeDiff,Nat.reduceEqDiff,Nat.reduceMul,↓reduceIte];done)|fail) only [sA,↓reduceIte,Nat.reduceLT,Nat.reduceEqDiff,Nat.reduceAdd,Nat.reduceLeDiff,g38],by simp (disch:=first|assumption|omega|(simp (disch:=first|assumption|omega) only [sB,Nat.reduceAdd,Nat.reduceLT,Nat.reduceLeDiff,Nat.reduceEqDiff,Nat.reduceMul,↓reduceIte];done)|fail) only [sA,↓reduceIte,Nat.reduceLT,Nat.reduceEqDiff,Nat.reduceAdd,Nat.reduceLeDiff]⟩⟩
              by_cases y2 : i < t'.sub.el.length
              case neg =>
                rw [if_neg (fun h => y2 h.2)] at hh
                simp (disch:=first|assumption|omega|(simp (disch:=first|assumption|omega) only [sB,Nat.reduceAdd,Nat.reduceLT,Nat.reduceLeDiff,Nat.reduceEqDiff,Nat.reduceMul,↓reduceIte];done)|fail) only [sA,↓reduceIte,Nat.reduceLT,Nat.reduceEqDiff,Nat.reduceAdd,Nat.reduceLeDiff,g1,g2,g6,g37,g38,g39,bC',bq,encS,str_eql,y1]
                exact ⟨_,_,_,_,rfl,.inl ⟨rfl,rfl,by omega,hh,by simp (disch:=first|assumption|omega|(simp (disch:=first|assumption|omega) only [sB,Nat.reduceAdd,Nat.reduceLT,Nat.reduceLeDiff,Nat.reduceEqDiff,Nat.reduceMul,↓reduceIte];done)|fail) only [sA,↓reduceIte,Nat.reduceLT,Nat.reduceEqDiff,Nat.reduceAdd,Nat.reduceLeDiff,g1],by simp (disch:=first|assumption|omega|(simp (disch:=first|assumption|omega) only [sB,Nat.reduceAdd,Nat.reduceLT,Nat.reduceLeDiff,Nat.reduceEqDiff,Nat.reduceMul,↓reduceIte];done)|fail) only [sA,↓reduceIte,Nat.reduceLT,Nat.reduceEqDiff,Nat.reduceAdd,Nat.reduceLeDiff,g2],by simp (disch:=first|assumption|omega|(simp (disch:=first|assumption|omega) only [sB,Nat.reduceAdd,Nat.reduceLT,Nat.reduceLeDiff,Nat.reduceEqDiff,Nat.reduceMul,↓reduceIte];done)|fail) only [sA,↓reduceIte,Nat.reduceLT,Nat.reduceEqDiff,Nat.reduceAdd,Nat.reduceLeDiff,g6],by simp (disch:=first|assumption|omega|(simp (disch:=first|assumption|omega) only [sB,Nat.reduceAdd,Nat.reduceLT,Nat.reduceLeDiff,Nat.reduceEqDiff,Nat.reduceMul,↓reduceIte];done)|fail) only [sA,↓reduceIte,Nat.reduceLT,Nat.reduceEqDiff,Nat.reduceAdd,Nat.reduceLeDiff,g37],by simp (disch:=first|assumption|omega|(simp (disch:=first|assumption|omega) only [sB,Nat.reduceAdd,Nat.reduceLT,Nat.reduceLeDiff,Nat.reduceEqDiff,Nat.reduceMul,↓reduceIte];done)|fail) only [sA,↓reduceIte,Nat.reduceLT,Nat.reduceEqDiff,Nat.reduceAdd,Nat.reduceLeDiff,g38],by simp (disch:=first|assumption|omega|(simp (disch:=first|assumption|omega) only [sB,Nat.reduceAdd,Nat.reduceLT,Nat.reduceLeDiff,Nat.reduceEqDiff,Nat.reduceMul,↓reduceIte];done)|fail) only [sA,↓reduceIte,Nat.reduceLT,Nat.reduceEqDiff,Nat.reduceAdd,Nat.reduceLeDiff]⟩⟩
              rw [if_pos ⟨y1,y2⟩] at hh
              obtain ⟨d1,u1,F1,m1⟩ := VC.pre3 a1
              obtain ⟨d3,s1,s2,s3⟩ := VC.suf (show at0 + 1 ≤ l.length from a1)
              have k1 := m1 n (.inr ⟨_,bC⟩)
              have hq := lenP_le (l.take at0 ++ P.kids.el ++ l.drop (at0 + 1))
              rw [List.length_append,List.length_append] at hq
              obtain ⟨D2,G2,D4,G4,j1,j2,j3,j4,j5,V4⟩ := F1.app2 (m := m + 8796093022225) (m' := m + 15393162788881) HC (by omega) (by omega) P.kids.el (l.drop (at0 + 1)) (by omega)
              have w2 : view 3 G2 d3 = .ok 3 ((l.drop (at0 + 1)).map encP) := s2 G2 (fun q es hq _ => j2 q hq)
              have c2 : getO G2 n = _ := (j2 n (by omega)).trans bC'
              have c4 : getO G4 n = _ := (j5 n (by omega)).trans bC'
              have c5 : ∀ X,getO (setO G4 n X) n = X := fun X => getO_set1 c4
              simp (disch:=first|assumption|omega|(simp (disch:=first|assumption|omega) only [sB,Nat.reduceAdd,Nat.reduceLT,Nat.reduceLeDiff,Nat.reduceEqDiff,Nat.reduceMul,↓reduceIte];done)|fail) only [sA,↓reduceIte,Nat.reduceLT,Nat.reduceEqDiff,Nat.reduceAdd,Nat.reduceLeDiff,g1,g2,g6,g37,g38,g39,bC',bq,encS,str_eql,y1,u1,s1,j1,w2,j3,c2,c4,k1,encW_eq]
              exact ⟨_,_,_,_,rfl,.inr ⟨by simp,.inr ⟨rfl,i,y2,hh.symm,(j4.set (r := n) (by omega) (fun k _ => lowO_one (lowW k _))).mono (by omega),by omega,c5 _,D4,V4.keep (by omega) (fun q es hq hrw => by rw [getO_setO _ _ _ _ (by rw [c4]; simp),if_neg (fun e => by rw [e,c4] at hrw; cases hrw)]),by simp (disch:=first|assumption|omega|(simp (disch:=first|assumption|omega) only [sB,Nat.reduceAdd,Nat.reduceLT,Nat.reduceLeDiff,Nat.reduceEqDiff,Nat.reduceMul,↓reduceIte];done)|fail) only [sA,↓reduceIte,Nat.reduceLT,Nat.reduceEqDiff,Nat.reduceAdd,Nat.reduceLeDiff],by simp (disch:=first|assumption|omega|(simp (disch:=first|assumption|omega) only [sB,Nat.reduceAdd,Nat.reduceLT,Nat.reduceLeDiff,Nat.reduceEqDiff,Nat.reduceMul,↓reduceIte];done)|fail) only [sA,↓reduceIte,Nat.reduceLT,Nat.reduceEqDiff,Nat.reduceAdd,Nat.reduceLeDiff,g2]⟩⟩⟩)
            ⟨rfl,by omega,by rw [List.drop_zero]; exact hR0,by simp (disch:=first|assumption|omega|(simp (disch:=first|assumption|omega) only [sB,Nat.reduceAdd,Nat.reduceLT,Nat.reduceLeDiff,Nat.reduceEqDiff,Nat.reduceMul,↓reduceIte];done)|fail) only [sA,↓reduceIte,Nat.reduceLT,Nat.reduceEqDiff,Nat.reduceAdd,Nat.reduceLeDiff,g1],by simp (disch:=first|assumption|omega|(simp (disch:=first|assumption|omega) only [sB,Nat.reduceAdd,Nat.reduceLT,Nat.reduceLeDiff,Nat.reduceEqDiff,Nat.reduceMul,↓reduceIte];done)|fail) only [sA,↓reduceIte,Nat.reduceLT,Nat.reduceEqDiff,Nat.reduceAdd,Nat.reduceLeDiff,g2],by simp (disch:=first|assumption|omega|(simp (disch:=first|assumption|omega) only [sB,Nat.reduceAdd,Nat.reduceLT,Nat.reduceLeDiff,Nat.reduceEqDiff,Nat.reduceMul,↓reduceIte];done)|fail) only [sA,↓reduceIte,Nat.reduceLT,Nat.reduceEqDiff,Nat.reduceAdd,Nat.reduceLeDiff],by simp (disch:=first|assumption|omega|(simp (disch:=first|assumption|omega) only [sB,Nat.reduceAdd,Nat.reduceLT,Nat.reduceLeDiff,Nat.reduceEqDiff,Nat.reduceMul,↓reduceIte];done)|fail) only [sA,↓reduceIte,Nat.reduceLT,Nat.reduceEqDiff,Nat.reduceAdd,Nat.reduceLeDiff],by simp (disch:=first|assumption|omega|(simp (disch:=first|assumption|omega) only [sB,Nat.reduceAdd,Nat.reduceLT,Nat.reduceLeDiff,Nat.reduceEqDiff,Nat.reduceMul,↓reduceIte];done)|fail) only [sA,↓reduceIte,Nat.reduceLT,Nat.reduceEqDiff,Nat.reduceAdd,Nat.reduceLeDiff],by simp (disch:=first|assumption|omega|(simp (disch:=first|assumption|omega) only [sB,Nat.reduceAdd,Nat.reduceLT,Nat.reduceLeDiff,Nat.reduceEqDiff,Nat.reduceMul,↓reduceIte];done)|fail) only [sA,↓reduceIte,Nat.reduceLT,Nat.reduceEqDiff,Nat.reduceAdd,Nat.reduceLeDiff]⟩
          rcases q with ⟨rfl,rfl,rfl,q1,g2'⟩ | ⟨rfl,j,hj,rfl,H3,q1,b3,d2,V2,g1',g2'⟩
          · simp (disch:=first|assumption|omega|(simp (disch:=first|assumption|omega) only [sB,Nat.reduceAdd,Nat.reduceLT,Nat.reduceLeDiff,Nat.reduceEqDiff,Nat.reduceMul,↓reduceIte];done)|fail) only [sA,↓reduceIte,Nat.reduceLT,Nat.reduceEqDiff,Nat.reduceAdd,Nat.reduceLeDiff]
            exact ⟨_,_,_,_,rfl,.inr ⟨by simp,rfl,HC.mono (by omega),t',bC,hN 0 0 hR.symm,g2'⟩⟩
          · replace hR : (if hi : j < t'.sub.el.length then runR f (t'.sub.el[j]'hi) (l.take at0 ++ P.kids.el ++ l.drop (at0 + 1)) else (0,false)) = B := hR
            rw [dif_pos hj] at hR
            have z1 := sizeR_eq t'
            have z2 := sizeR_mem (List.getElem_mem hj)
            simp (disch:=first|assumption|omega|(simp (disch:=first|assumption|omega) only [sB,Nat.reduceAdd,Nat.reduceLT,Nat.reduceLeDiff,Nat.reduceEqDiff,Nat.reduceMul,↓reduceIte];done)|fail) only [sA,↓reduceIte,Nat.reduceLT,Nat.reduceEqDiff,Nat.reduceAdd,Nat.reduceLeDiff]
            exact ⟨_,_,_,_,rfl,.inl ⟨rfl,f,by omega,H3,q1,t'.sub.el[j],_,d2,by omega,finR_mem hfn.2 (List.getElem_mem hj),by omega,hR,b3,V2,g1',g2'⟩⟩)
    (sizeR t) ⟨H0.mono (by omega),by omega,t,s.el,slD 3 encP s,Nat.le_refl _,hf,hs,hB,by simp (disch:=first|assumption|omega|(simp (disch:=first|assumption|omega) only [sB,Nat.reduceAdd,Nat.reduceLT,Nat.reduceLeDiff,Nat.reduceEqDiff,Nat.reduceMul,↓reduceIte];done)|fail) only [sA,↓reduceIte,Nat.reduceLT,Nat.reduceEqDiff,Nat.reduceAdd,Nat.reduceLeDiff],.sl s rfl rfl,by simp (disch:=first|assumption|omega|(simp (disch:=first|assumption|omega) only [sB,Nat.reduceAdd,Nat.reduceLT,Nat.reduceLeDiff,Nat.reduceEqDiff,Nat.reduceMul,↓reduceIte];done)|fail) only [sA,↓reduceIte,Nat.reduceLT,Nat.reduceEqDiff,Nat.reduceAdd,Nat.reduceLeDiff],by simp (disch:=first|assumption|omega|(simp (disch:=first|assumption|omega) only [sB,Nat.reduceAdd,Nat.reduceLT,Nat.reduceLeDiff,Nat.reduceEqDiff,Nat.reduceMul,↓reduceIte];done)|fail) only [sA,↓reduceIte,Nat.reduceLT,Nat.reduceEqDiff,Nat.reduceAdd,Nat.reduceLeDiff]⟩
  cases hlf : t2.leaf with
  | true =>
    rw [boxW,hlf] at b2
    rw [hlf] at hB2
    rw [hB2]
    simp (disch:=first|assumption|omega|(simp (disch:=first|assumption|omega) only [sB,Nat.reduceAdd,Nat.reduceLT,Nat.reduceLeDiff,Nat.reduceEqDiff,Nat.reduceMul,↓reduceIte];done)|fail) only [sA,↓reduceIte,Nat.reduceLT,Nat.reduceEqDiff,Nat.reduceAdd,Nat.reduceLeDiff,g2,b2]
    exact finish_flat rfl (H2.mono (by omega))
  | false =>
    rw [boxW,hlf] at b2
    rw [hlf] at hB2
    rw [hB2]
    simp (disch:=first|assumption|omega|(simp (disch:=first|assumption|omega) only [sB,Nat.reduceAdd,Nat.reduceLT,Nat.reduceLeDiff,Nat.reduceEqDiff,Nat.reduceMul,↓reduceIte];done)|fail) only [sA,↓reduceIte,Nat.reduceLT,Nat.reduceEqDiff,Nat.reduceAdd,Nat.reduceLeDiff,g2,b2]
    exact finish_flat rfl (H2.mono (by omega))
end Go.Proofs.YtknnbjoagigmgaaGreat
