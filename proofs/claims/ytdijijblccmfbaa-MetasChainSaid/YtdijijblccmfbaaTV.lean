/- Free variables and names in a term: the program's Free and Has, and the reference's. No condition but sizes. -/
import Derived.Test.YtdijijblccmfbaaTMD
import Derived.Test.YtdijijblccmfbaaTMA
import Derived.Test.YtdijijblccmfbaaCK1
set_option linter.unusedSimpArgs false
set_option linter.unusedVariables false
namespace Go.Proofs.Ytdijijblccmfbaa
open Go

mutual
def freeV : Trm → Int → Int
  | .mk f n _ _ _ ks,d => if f = 1 then (if n < d then 0 else n - d + 1) else freeVs f 0 ks d
def freeVs (f : Int) (i : Nat) : List Trm → Int → Int
  | [],_ => 0
  | k :: t,d => max (freeV k (undr f i d)) (freeVs f (i + 1) t d)
end
mutual
def hasV (s : List Nat) : Trm → Bool
  | .mk f _ _ nm _ ks => decide (f = 10 ∧ nm = s) || hasVs s ks
def hasVs (s : List Nat) : List Trm → Bool
  | [] => false
  | k :: t => hasV s k || hasVs s t
end
theorem free_eq (t : Trm) (d : Int) : freeV t d = if t.form = 1 then (if t.n < d then 0 else t.n - d + 1) else freeVs t.form 0 t.kids d := by cases t; rw [freeV]; rfl
theorem freeVs_nil (f : Int) (i : Nat) (d : Int) : freeVs f i [] d = 0 := by rw [freeVs]
theorem freeVs_cons (f : Int) (i : Nat) (k : Trm) (t : List Trm) (d : Int) : freeVs f i (k :: t) d = max (freeV k (undr f i d)) (freeVs f (i + 1) t d) := by rw [freeVs]
theorem free_in : ∀ t : Tm,slimT t.abs = true → ∀ d,0 ≤ d → 0 ≤ freeV t.abs d ∧ freeV t.abs d ≤ 100000000001 := by
  refine Tm.ind ?_
  intro t ih hs d hd
  obtain ⟨_,hv,_,hk⟩ := slim_tm hs
  rw [free_eq,abs_form,abs_n,abs_kids]
  split
  · rename_i h1
    have := hv h1
    split <;> omega
  · have key : ∀ ks : List Tm,(∀ k,k ∈ ks → k ∈ t.kids.el) → ∀ i,0 ≤ freeVs t.form i (ks.map Tm.abs) d ∧ freeVs t.form i (ks.map Tm.abs) d ≤ 100000000001 := by
      intro ks
      induction ks with
      | nil => intro _ i; rw [List.map_nil,freeVs_nil]; omega
      | cons k ks ihk =>
        intro hks i
        rw [List.map_cons,freeVs_cons]
        have a1 := ih k (hks k (by simp)) (hk k (hks k (by simp))) (undr t.form i d) (by have := undr_low t.form i d; omega)
        have a2 := ihk (fun x hx => hks x (by simp [hx])) (i + 1)
        omega
    exact key t.kids.el (fun _ h => h) 0

theorem fClo (n : Nat) (h : Hps) (hg : Gd n h) (t : Tm) (d V : Int) (r : Nat) (hr : r < n) (hb : getO h r = .row 1 [.int .i64 V]) (ht : t.form = 1 → 0 ≤ t.n ∧ t.n ≤ 100000000000) (hd : 0 ≤ d ∧ d ≤ 10000000) :
    callFn (LX (cF Try.prog)) n h [(D.agg [.int .i64 (t).form,.int .i64 (t).n,.bool (t).hid,.str (t).name,slD 2 encL (t).levels,slD 6 encT (t).kids]),.int .i64 d,.ptr r 0 0] (cF Try.prog 107) = .ok (.bool false) n (if t.form = 1 then setO h r (.row 1 [.int .i64 (max V (t.n - d + 1))]) else h) := by
  have hgn := hg n (Nat.le_refl _)
  by_cases h1 : t.form = 1
  · rw [if_pos h1]
    have := ht h1
    have U : Cnt r (max V (t.n - d + 1)) h (setO h r (.row 1 [.int .i64 (max V (t.n - d + 1))])) := Cnt.set hb
    have g2 := U.gd hr hg
    generalize hh : setO h r (.row 1 [.int .i64 (max V (t.n - d + 1))]) = h2 at g2 ⊢
    have H : Hp n h2 (n + 1) ((n,(Ob.row 6 [.agg [.int .i64 (t).form,.int .i64 (t).n,.bool (t).hid,.str (t).name,slD 2 encL (t).levels,slD 6 encT (t).kids]])) :: h2) := (Hp.start g2).box (r := n) (m := n + 1) (Nat.le_refl _) (by omega) (flatTA t)
    rw [h1] at H
    rw [f107_eq]; unfold c107; rw [callFn_eq (by rfl)]
    simp (disch:=first|assumption|omega|(simp (disch:=first|assumption|omega) only [sB,Nat.reduceAdd,Nat.reduceLT,Nat.reduceLeDiff,Nat.reduceEqDiff,Nat.reduceMul,↓reduceIte];done)|fail) only [sA,↓reduceIte,Nat.reduceLT,Nat.reduceEqDiff,Nat.reduceAdd,Nat.reduceLeDiff,h1,hb,hh]
    exact finish_flat (d := .bool false) rfl (H.mono (by omega))
  · rw [if_neg h1]
    rw [f107_eq]; unfold c107; rw [callFn_eq (by rfl)]
    simp (disch:=first|assumption|omega|(simp (disch:=first|assumption|omega) only [sB,Nat.reduceAdd,Nat.reduceLT,Nat.reduceLeDiff,Nat.reduceEqDiff,Nat.reduceMul,↓reduceIte];done)|fail) only [sA,↓reduceIte,Nat.reduceLT,Nat.reduceEqDiff,Nat.reduceAdd,Nat.reduceLeDiff,h1]
set_option maxHeartbeats 8000000 in
theorem anyFree {r : Nat} : ∀ t : Tm,slimT t.abs = true → leafT t.abs = true → ∀ d V : Int,0 ≤ d → d + highT t.abs ≤ 1000000 → 0 ≤ V → V ≤ 1000000000000 → ∀ (n : Nat) (h : Hps),Gd n h → r < n → getO h r = .row 1 [.int .i64 V] →
    ∃ h',callFn (LX (cF Try.prog)) n h [(D.agg [.int .i64 (t).form,.int .i64 (t).n,.bool (t).hid,.str (t).name,slD 2 encL (t).levels,slD 6 encT (t).kids]),.int .i64 d,.fn 107 [] [.ptr r 0 0]] (cF Try.prog 106) = .ok (.bool false) n h' ∧ Cnt r (max V (freeV t.abs d)) h h' := by
  refine Tm.ind ?_
  intro t ih hsl hlf d V hd0 hd hV0 hV n h hg hr hb
  obtain ⟨hk,hv,_,hks⟩ := slim_tm hsl
  obtain ⟨hl1,hlk⟩ := leaf_tm hlf
  have hgn := hg n (Nat.le_refl _)
  have hhp := highT_pos t.abs
  obtain ⟨V1,h1,hc1,U1,v0,v1,hVV⟩ : ∃ V1 h1,(∀ m,n + 1 ≤ m → callFn (LX (cF Try.prog)) m ((n,(Ob.row 6 [.agg [.int .i64 (t).form,.int .i64 (t).n,.bool (t).hid,.str (t).name,slD 2 encL (t).levels,slD 6 encT (t).kids]])) :: h) [(D.agg [.int .i64 (t).form,.int .i64 (t).n,.bool (t).hid,.str (t).name,slD 2 encL (t).levels,slD 6 encT (t).kids]),.int .i64 d,.ptr r 0 0] (cF Try.prog 107) = .ok (.bool false) m ((n,(Ob.row 6 [.agg [.int .i64 (t).form,.int .i64 (t).n,.bool (t).hid,.str (t).name,slD 2 encL (t).levels,slD 6 encT (t).kids]])) :: h1)) ∧ Cnt r V1 h h1 ∧ 0 ≤ V1 ∧ V1 ≤ 1000000000000 ∧ max V (freeV t.abs d) = max V1 (freeVs t.form 0 (t.kids.el.map Tm.abs) d) := by
    have hH : ∀ m,n + 1 ≤ m → Gd m ((n,(Ob.row 6 [.agg [.int .i64 (t).form,.int .i64 (t).n,.bool (t).hid,.str (t).name,slD 2 encL (t).levels,slD 6 encT (t).kids]])) :: h) := fun m hm => by rw [gd_tm (by omega)]; exact hg.mono (by omega)
    have hbH : getO ((n,(Ob.row 6 [.agg [.int .i64 (t).form,.int .i64 (t).n,.bool (t).hid,.str (t).name,slD 2 encL (t).levels,slD 6 encT (t).kids]])) :: h) r = .row 1 [.int .i64 V] := by rw [getO_tl (by omega)]; exact hb
    by_cases h1 : t.form = 1
    · have := hv h1
      refine ⟨max V (t.n - d + 1),setO h r (.row 1 [.int .i64 (max V (t.n - d + 1))]),fun m hm => ?_,Cnt.set hb,by omega,by omega,?_⟩
      · have := fClo m _ (hH m hm) t d V r (by omega) hbH hv (by omega)
        rw [if_pos h1,setO_tl (by omega)] at this
        exact this
      · rw [free_eq,abs_form,abs_n,if_pos h1,hl1 h1,List.map_nil,freeVs_nil]
        split <;> omega
    · refine ⟨V,h,fun m hm => ?_,Cnt.refl hb,hV0,hV,?_⟩
      · have := fClo m _ (hH m hm) t d V r (by omega) hbH hv (by omega)
        rw [if_neg h1] at this
        exact this
      · rw [free_eq,abs_form,abs_kids,if_neg h1]
  rw [hVV]
  generalize hRR : max V1 (freeVs t.form 0 (t.kids.el.map Tm.abs) d) = RR
  have g1 := U1.gd hr hg
  have H0 : Hp n h1 (n + 1) ((n,(Ob.row 6 [.agg [.int .i64 (t).form,.int .i64 (t).n,.bool (t).hid,.str (t).name,slD 2 encL (t).levels,slD 6 encT (t).kids]])) :: h1) := (Hp.start g1).box (r := n) (m := n + 1) (Nat.le_refl _) (by omega) (flatTA t)
  rw [f106_eq]; unfold c106; rw [callFn_eq (by rfl)]
  simp (disch:=first|assumption|omega|(simp (disch:=first|assumption|omega) only [sB,Nat.reduceAdd,Nat.reduceLT,Nat.reduceLeDiff,Nat.reduceEqDiff,Nat.reduceMul,↓reduceIte];done)|fail) only [sA,↓reduceIte,Nat.reduceLT,Nat.reduceEqDiff,Nat.reduceAdd,Nat.reduceLeDiff,hc1]
  generalize hR : LX (cF Try.prog) (.loop l106_0) _ _ _ = R
  obtain ⟨z,ez,nz,G,rfl,rfl,hbz,Hz,Vz⟩ := loop_up hR t.kids.el.length
    (fun i e n' G => n + 1 ≤ n' ∧ (∃ hb' Vi,Hp n hb' n' G ∧ Cnt r Vi h hb' ∧ 0 ≤ Vi ∧ Vi ≤ 1000000000000 ∧ max Vi (freeVs t.form i ((t.kids.el.drop i).map Tm.abs) d) = RR) ∧ getO G n = (Ob.row 6 [.agg [.int .i64 (t).form,.int .i64 (t).n,.bool (t).hid,.str (t).name,slD 2 encL (t).levels,slD 6 encT (t).kids]]) ∧
      get (po 1) e = .int .i64 d ∧ get (po 2) e = .fn 107 [] [.ptr r 0 0] ∧ get (po 3) e = .ptr n 0 0 ∧ get (po 14) e = slD 6 encT t.kids ∧ get (po 15) e = .int .i64 (t.kids.el.length : Nat) ∧ get (po 16) e = .int .i64 (i : Nat))
    (fun z e n' G => z = .exit 0 ∧ ∃ hb',Hp n hb' n' G ∧ Cnt r RR h hb')
    (by
      rintro e n' G ⟨p1,⟨hb',Vi,H,U,i0,i1,iR⟩,zn,q1,q2,q3,q14,q15,q16⟩
      rw [List.drop_length,List.map_nil,freeVs_nil] at iR
      unfold l106_0
      simp (disch:=first|assumption|omega|(simp (disch:=first|assumption|omega) only [sB,Nat.reduceAdd,Nat.reduceLT,Nat.reduceLeDiff,Nat.reduceEqDiff,Nat.reduceMul,↓reduceIte];done)|fail) only [sA,↓reduceIte,Nat.reduceLT,Nat.reduceEqDiff,Nat.reduceAdd,Nat.reduceLeDiff,q15,q16]
      exact ⟨_,_,_,_,rfl,by simp,rfl,hb',H.mono (by omega),by rw [← iR,show max Vi 0 = Vi by omega]; exact U⟩)
    (by
      rintro i e n' G hi ⟨p1,⟨hb',Vi,H,U,i0,i1,iR⟩,zn,q1,q2,q3,q14,q15,q16⟩
      rw [List.drop_eq_getElem_cons hi,List.map_cons,freeVs_cons] at iR
      have hu := undr_low t.form i d
      have hu2 := undr_le t.form i d
      have hkh := high_kid (t := t) (List.getElem_mem hi)
      have c3 : ∀ m,callFn (LX (cF Try.prog)) m [] [.int .i64 t.form,.int .i64 (i : Nat),.int .i64 d] (cF Try.prog 119) = .ok (.int .i64 (undr t.form i d)) m [] := fun m => pUnder m [] (fun _ _ => good_nil) t.form i d (by omega)
      have hWm := List.getElem_mem hi
      generalize hW : t.kids.el[i] = W at hkh iR hWm
      have eW : encT t.kids.el[i] = (D.agg [.int .i64 (W).form,.int .i64 (W).n,.bool (W).hid,.str (W).name,slD 2 encL (W).levels,slD 6 encT (W).kids]) := by rw [hW,encT_eq]
      have H5 : Hp n hb' (n' + 5) ((n' + 4,(Ob.row 6 [.agg [.int .i64 (W).form,.int .i64 (W).n,.bool (W).hid,.str (W).name,slD 2 encL (W).levels,slD 6 encT (W).kids]])) :: G) := H.box (r := n' + 4) (m := n' + 5) (by omega) (by omega) (flatTA W)
      have hG5 : getO ((n' + 4,(Ob.row 6 [.agg [.int .i64 (W).form,.int .i64 (W).n,.bool (W).hid,.str (W).name,slD 2 encL (W).levels,slD 6 encT (W).kids]])) :: G) r = .row 1 [.int .i64 Vi] := by rw [getO_tl (by omega),H.get hr]; exact U.1
      have hky : ∀ m,n' + 5 ≤ m → keysFrom m ((n' + 4,(Ob.row 6 [.agg [.int .i64 (W).form,.int .i64 (W).n,.bool (W).hid,.str (W).name,slD 2 encL (W).levels,slD 6 encT (W).kids]])) :: G) = [] := fun m hm => keys_low (H5.good m hm)
      obtain ⟨G1,e5,V5⟩ := ih W hWm (hks W hWm) (hlk W hWm) (undr t.form i d) Vi (by omega) (by omega) i0 i1 (n' + 7696581394440) _ (fun k hk => H5.good k (by omega)) (by omega) hG5
      have hfW := free_in W (hks W hWm) (undr t.form i d) (by omega)
      obtain ⟨hb2,H2,V2⟩ := Cnt.hp H5 V5 hr
      have y0 : getO G1 n = (Ob.row 6 [.agg [.int .i64 (t).form,.int .i64 (t).n,.bool (t).hid,.str (t).name,slD 2 encL (t).levels,slD 6 encT (t).kids]]) := by rw [V5.get (by omega),getO_tl (by omega)]; exact zn
      have hky1 : ∀ m,n' + 5 ≤ m → keysFrom m G1 = [] := fun m hm => keys_low (H2.good m hm)
      unfold l106_0
      simp (disch:=first|assumption|omega|(simp (disch:=first|assumption|omega) only [sB,Nat.reduceAdd,Nat.reduceLT,Nat.reduceLeDiff,Nat.reduceEqDiff,Nat.reduceMul,↓reduceIte];done)|fail) only [sA,↓reduceIte,Nat.reduceLT,Nat.reduceEqDiff,Nat.reduceAdd,Nat.reduceLeDiff,q1,q2,q3,q14,q15,q16,c3,eW,zn,hky,hky1,e5]
      exact ⟨_,_,_,_,rfl,.inl ⟨rfl,by omega,⟨hb2,_,H2.mono (by omega),U.trans V2,by omega,by omega,by rw [← iR]; omega⟩,y0,by simp (disch:=first|assumption|omega|(simp (disch:=first|assumption|omega) only [sB,Nat.reduceAdd,Nat.reduceLT,Nat.reduceLeDiff,Nat.reduceEqDiff,Nat.reduceMul,↓reduceIte];done)|fail) only [sA,↓reduceIte,Nat.reduceLT,Nat.reduceEqDiff,Nat.reduceAdd,Nat.reduceLeDiff,q1],by simp (disch:=first|assumption|omega|(simp (disch:=first|assumption|omega) only [sB,Nat.reduceAdd,Nat.reduceLT,Nat.reduceLeDiff,Nat.reduceEqDiff,Nat.reduceMul,↓reduceIte];done)|fail) only [sA,↓reduceIte,Nat.reduceLT,Nat.reduceEqDiff,Nat.reduceAdd,Nat.reduceLeDiff,q2],by simp (disch:=first|assumption|omega|(simp (disch:=first|assumption|omega) only [sB,Nat.reduceAdd,Nat.reduceLT,Nat.reduceLeDiff,Nat.reduceEqDiff,Nat.reduceMul,↓reduceIte];done)|fail) only [sA,↓reduceIte,Nat.reduceLT,Nat.reduceEqDiff,Nat.reduceAdd,Nat.reduceLeDiff,q3],by simp (disch:=first|assumption|omega|(simp (disch:=first|assumption|omega) only [sB,Nat.reduceAdd,Nat.reduceLT,Nat.reduceLeDiff,Nat.reduceEqDiff,Nat.reduceMul,↓reduceIte];done)|fail) only [sA,↓reduceIte,Nat.reduceLT,Nat.reduceEqDiff,Nat.reduceAdd,Nat.reduceLeDiff,q14],by simp (disch:=first|assumption|omega|(simp (disch:=first|assumption|omega) only [sB,Nat.reduceAdd,Nat.reduceLT,Nat.reduceLeDiff,Nat.reduceEqDiff,Nat.reduceMul,↓reduceIte];done)|fail) only [sA,↓reduceIte,Nat.reduceLT,Nat.reduceEqDiff,Nat.reduceAdd,Nat.reduceLeDiff,q15],by simp (disch:=first|assumption|omega|(simp (disch:=first|assumption|omega) only [sB,Nat.reduceAdd,Nat.reduceLT,Nat.reduceLeDiff,Nat.reduceEqDiff,Nat.reduceMul,↓reduceIte];done)|fail) only [sA,↓reduceIte,Nat.reduceLT,Nat.reduceEqDiff,Nat.reduceAdd,Nat.reduceLeDiff]⟩⟩)
    ⟨by omega,⟨h1,V1,H0.mono (by omega),U1,v0,v1,by rw [List.drop_zero]; exact hRR⟩,by rw [getO_hd],by simp (disch:=first|assumption|omega|(simp (disch:=first|assumption|omega) only [sB,Nat.reduceAdd,Nat.reduceLT,Nat.reduceLeDiff,Nat.reduceEqDiff,Nat.reduceMul,↓reduceIte];done)|fail) only [sA,↓reduceIte,Nat.reduceLT,Nat.reduceEqDiff,Nat.reduceAdd,Nat.reduceLeDiff],by simp (disch:=first|assumption|omega|(simp (disch:=first|assumption|omega) only [sB,Nat.reduceAdd,Nat.reduceLT,Nat.reduceLeDiff,Nat.reduceEqDiff,Nat.reduceMul,↓reduceIte];done)|fail) only [sA,↓reduceIte,Nat.reduceLT,Nat.reduceEqDiff,Nat.reduceAdd,Nat.reduceLeDiff],by simp (disch:=first|assumption|omega|(simp (disch:=first|assumption|omega) only [sB,Nat.reduceAdd,Nat.reduceLT,Nat.reduceLeDiff,Nat.reduceEqDiff,Nat.reduceMul,↓reduceIte];done)|fail) only [sA,↓reduceIte,Nat.reduceLT,Nat.reduceEqDiff,Nat.reduceAdd,Nat.reduceLeDiff],by simp (disch:=first|assumption|omega|(simp (disch:=first|assumption|omega) only [sB,Nat.reduceAdd,Nat.reduceLT,Nat.reduceLeDiff,Nat.reduceEqDiff,Nat.reduceMul,↓reduceIte];done)|fail) only [sA,↓reduceIte,Nat.reduceLT,Nat.reduceEqDiff,Nat.reduceAdd,Nat.reduceLeDiff],by simp (disch:=first|assumption|omega|(simp (disch:=first|assumption|omega) only [sB,Nat.reduceAdd,Nat.reduceLT,Nat.reduceLeDiff,Nat.reduceEqDiff,Nat.reduceMul,↓reduceIte];done)|fail) only [sA,↓reduceIte,Nat.reduceLT,Nat.reduceEqDiff,Nat.reduceAdd,Nat.reduceLeDiff],by simp (disch:=first|assumption|omega|(simp (disch:=first|assumption|omega) only [sB,Nat.reduceAdd,Nat.reduceLT,Nat.reduceLeDiff,Nat.reduceEqDiff,Nat.reduceMul,↓reduceIte];done)|fail) only [sA,↓reduceIte,Nat.reduceLT,Nat.reduceEqDiff,Nat.reduceAdd,Nat.reduceLeDiff]⟩
  refine ⟨hbz,?_,Vz⟩
  simp (disch:=first|assumption|omega|(simp (disch:=first|assumption|omega) only [sB,Nat.reduceAdd,Nat.reduceLT,Nat.reduceLeDiff,Nat.reduceEqDiff,Nat.reduceMul,↓reduceIte];done)|fail) only [sA,↓reduceIte,Nat.reduceLT,Nat.reduceEqDiff,Nat.reduceAdd,Nat.reduceLeDiff,finish_flat (d := .bool false) rfl (Hz.mono (show nz ≤ nz + 1 by omega))]

end Go.Proofs.Ytdijijblccmfbaa
