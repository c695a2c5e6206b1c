/- TermLevels: a term with its level parameters replaced. Condition: what is handed in is of bulk at most 1048576. -/
import Derived.Test.YtdijijblccmfbaaTIL
import Derived.Test.YtdijijblccmfbaaTME
import Derived.Test.YtdijijblccmfbaaTIR
import Derived.Test.YtdijijblccmfbaaTXD
import Derived.Test.YtdijijblccmfbaaTK
import Derived.Test.YtdijijblccmfbaaTR
import Derived.Test.YtdijijblccmfbaaA38
import Derived.Test.YtdijijblccmfbaaTT
import Derived.Test.YtdijijblccmfbaaTV1
set_option linter.unusedSimpArgs false
set_option linter.unusedVariables false
namespace Go.Proofs.Ytdijijblccmfbaa
open Go
open Nat (reduceAdd reduceLT reduceLeDiff reduceEqDiff reduceMul)

theorem tr_mkfn {e : Tr} {n f : Nat} {a c : List Opd} {h h' : Hps} : touchR e n (.mkfn f a c) h h' = [] := eqOf rfl
set_option maxHeartbeats 8000000 in
theorem pInLevels (n : Nat) (h : Hps) (hg : Gd n h) (t : Tm) (args : Sl SLev) (ha : args.el.length < 1000000000000) (hz : ∀ a,a ∈ args.el → sizeOk a) (ht : slimT t.abs = true) (hs : sizeT t.abs ≤ 100000) (hh : highT t.abs ≤ 100000) :
    callFn (LX (cF Try.prog)) n h [(D.agg [.int .i64 (t).form,.int .i64 (t).n,.bool (t).hid,.str (t).name,slD 2 encL (t).levels,slD 6 encT (t).kids]),slD 2 encL args] (cF Try.prog 89) = .ok (.tup [encT (runN (gI args) t 1099511627776 0).1,.int .i64 (runN (gI args) t 1099511627776 0).2.2]) n h := by
  have hgn := hg n (Nat.le_refl _)
  have hG : ∀ m,n ≤ m → Gd m h := fun m hm => hg.mono hm
  have H4 : Hp n h (n + 5) ((n + 4,.row 1 [.int .i64 0]) :: (n + 2,(Ob.row 6 [.agg [.int .i64 0,.int .i64 0,.bool false,.str [],.nils,.nils]])) :: (n + 1,.row 1 [slD 2 encL args]) :: (n,(Ob.row 6 [.agg [.int .i64 (t).form,.int .i64 (t).n,.bool (t).hid,.str (t).name,slD 2 encL (t).levels,slD 6 encT (t).kids]])) :: h) := ((((Hp.start hg).box (r := n) (m := n + 1) (Nat.le_refl _) (by omega) (flatTA t)).box (r := n + 1) (m := n + 2) (by omega) (by omega) flat_slD).box (r := n + 2) (m := n + 3) (k := 6) (d := (D.agg [.int .i64 0,.int .i64 0,.bool false,.str [],.nils,.nils])) (by omega) (by omega) rfl).box (r := n + 4) (m := n + 5) (k := 1) (d := .int .i64 0) (by omega) (by omega) rfl
  have hky : keysFrom (n + 1099511627782) ((n + 4,.row 1 [.int .i64 0]) :: (n + 2,(Ob.row 6 [.agg [.int .i64 0,.int .i64 0,.bool false,.str [],.nils,.nils]])) :: (n + 1,.row 1 [slD 2 encL args]) :: (n,(Ob.row 6 [.agg [.int .i64 (t).form,.int .i64 (t).n,.bool (t).hid,.str (t).name,slD 2 encL (t).levels,slD 6 encT (t).kids]])) :: h) = [] := keys_low (H4.good _ (by omega))
  have H5 := H4.box (r := n + 1099511627784) (m := n + 3298534883334) (k := 1) (d := .int .i64 1099511627776) (by omega) (by omega) rfl
  have e0 : ∀ {r q : Nat} {o : Ob} {g : Hps},r ≠ q → getO ((r,o) :: g) q = getO g q := fun h => getO_tl h
  have y1 : getO ((n + 1099511627784,.row 1 [.int .i64 1099511627776]) :: (n + 4,.row 1 [.int .i64 0]) :: (n + 2,(Ob.row 6 [.agg [.int .i64 0,.int .i64 0,.bool false,.str [],.nils,.nils]])) :: (n + 1,.row 1 [slD 2 encL args]) :: (n,(Ob.row 6 [.agg [.int .i64 (t).form,.int .i64 (t).n,.bool (t).hid,.str (t).name,slD 2 encL (t).levels,slD 6 encT (t).kids]])) :: h) (n + 1) = .row 1 [slD 2 encL args] := by rw [e0 (by omega),e0 (by omega),e0 (by omega),getO_hd]
  have y4 : getO ((n + 1099511627784,.row 1 [.int .i64 1099511627776]) :: (n + 4,.row 1 [.int .i64 0]) :: (n + 2,(Ob.row 6 [.agg [.int .i64 0,.int .i64 0,.bool false,.str [],.nils,.nils]])) :: (n + 1,.row 1 [slD 2 encL args]) :: (n,(Ob.row 6 [.agg [.int .i64 (t).form,.int .i64 (t).n,.bool (t).hid,.str (t).name,slD 2 encL (t).levels,slD 6 encT (t).kids]])) :: h) (n + 4) = .row 1 [.int .i64 0] := by rw [e0 (by omega),getO_hd]
  have hrd : rd 20 (.fn 115 [] [.ptr (n + 4) 0 0,.ptr (n + 1) 0 0]) = [n + 4,n + 1] := rfl
  have hsl : rd 20 (slD 2 encL args) = [] := by rcases slD_isSl 2 encL args with ⟨h1,_⟩ | ⟨_,_,h1⟩ <;> rw [h1] <;> rfl
  have hin : inD (fun x => memN x [n + 1,n + 4,n + 1099511627784]) 20 (.fn 115 [] [.ptr (n + 4) 0 0,.ptr (n + 1) 0 0]) = true := by
    simp [in_fn,in_ptr,memN_cons]
  have hreach := reach2 (k := 91) (t := t) (d := 0) (r := n + 1099511627784) (by omega) (by omega) (by omega) hsl getO_hd y4 y1 hrd
  obtain ⟨gg,k1,k2⟩ := mapRun2 (r := n + 1099511627784) (q := n + 4) (p := n + 1) (by omega) (by omega) (by omega) boxSl hsl hrd hin (doesI (by omega) (by omega) (by omega) ha hz) t ht 0 1099511627776 0 (by omega) (by omega) (by omega) (by omega) (n + 3298534883334 + 1) [(n + 1,.row 1 [slD 2 encL args]),(n + 4,.row 1 [.int .i64 0]),(n + 1099511627784,.row 1 [.int .i64 1099511627776])] (fun k hk => good_cons.2 ⟨by omega,boxSl.low k,good_cons.2 ⟨by omega,lowI,good_cons.2 ⟨by omega,lowI,good_nil⟩⟩⟩) (by omega) (by omega) (by omega) (by rw [getO_tl (by omega),getO_tl (by omega),getO_hd]) (by rw [getO_tl (by omega),getO_hd]) getO_hd
  obtain ⟨G1,e5,V5⟩ := sub2 (call := callX (cF Try.prog) (LX (cF Try.prog))) (m := n + 3298534883334) (k := 91) (v := (runN (gI args) t 1099511627776 0).1) (t := t) (d := 0) boxSl getO_hd y4 y1 (by omega) (by omega) (by omega) hin (by rw [callX_fn]; exact k1) k2
  generalize runN (gI args) t 1099511627776 0 = X at e5 V5 ⊢
  have H6 : Hp n h (n + 3298534883334) G1 := Upd.own H5 V5.1 (fun r hr => by
    rcases List.mem_cons.1 hr with rfl | hr
    · omega
    rcases List.mem_cons.1 hr with rfl | hr
    · omega
    rw [List.mem_singleton.1 hr]; omega)
  rw [encT_eq X.1] at e5 ⊢
  have hrl : rfL (rd 20) [(D.agg [.int .i64 (t).form,.int .i64 (t).n,.bool (t).hid,.str (t).name,slD 2 encL (t).levels,slD 6 encT (t).kids]),.int .i64 0,.ptr (n + 1099511627784) 0 0,.fn 115 [] [.ptr (n + 4) 0 0,.ptr (n + 1) 0 0]] = [n + 1099511627784,n + 4,n + 1] := by
    show appN (rd (18 + 2) (D.agg [.int .i64 (t).form,.int .i64 (t).n,.bool (t).hid,.str (t).name,slD 2 encL (t).levels,slD 6 encT (t).kids])) (appN [] (appN [n + 1099511627784] (appN [n + 4,n + 1] []))) = _
    rw [rdT]; rfl
  have w4 : getO G1 (n + 4) = .row 1 [.int .i64 X.2.2] := V5.2.2.1
  have w2 : getO G1 (n + 2) = (Ob.row 6 [.agg [.int .i64 0,.int .i64 0,.bool false,.str [],.nils,.nils]]) := by
    rw [V5.1.2.1 _ (by simp),e0 (by omega),e0 (by omega),getO_hd]
  have hky1 : ∀ m,n + 3298534883334 ≤ m → keysFrom m G1 = [] := fun m hm => keys_low (H6.good m hm)
  have w5 : ∀ Y,getO (setO G1 (n + 2) Y) (n + 2) = Y := fun Y => getO_setO_same (by rw [w2]; simp)
  rw [f89_eq]; unfold c89; rw [callFn_eq (by rfl)]
  simp (disch:=first|assumption|omega|(simp (disch:=first|assumption|omega) only [sB,reduceAdd,reduceLT,reduceLeDiff,reduceEqDiff,reduceMul,↓reduceIte];done)|fail) only [sA,↓reduceIte,reduceLT,reduceEqDiff,reduceAdd,reduceLeDiff,pNone,pureC_new,keys_new,tr_mkfn,hky,hrl,hreach,e5,w4,w2,hky1,apartR_cons,w5]
  exact finish_flat (flatP (flat2T X.1)) ((H6.set (r := n + 2) (by omega) (fun k hk => lowO_one (low_flat (flatTA X.1)))).box (r := n + 4398046511110) (m := n + 10995116277766) (by omega) (by omega) (flatTA X.1))
theorem fin_tri {n m r : Nat} {h : Hps} {X Y Z W : D} {e : Int} (hg : Gd n h) (hX : flat2 X = true) (hY : flat Y = true) (hZ : flat Z = true) (hW : flat W = true) (hr : n + 2 ≤ r) (hm : r < m) : finishD n m ((r,.row 6 [W]) :: (n + 1,.row 6 [Y]) :: (n,.row 6 [Z]) :: h) (.tup [X,.int .i64 e]) = .ok (.tup [X,.int .i64 e]) n h :=
  finish_flat (flatP hX) ((((Hp.start hg).box (r := n) (m := n + 1) (Nat.le_refl _) (by omega) hZ).box (r := n + 1) (m := n + 2) (by omega) (by omega) hY).box (r := r) (m := m) hr hm hW)
theorem run2_sane {g : Does2} (hg : ∀ t,slimT t.abs = true → ∀ B x,g t B = some x → saneT x.1.abs = true) : ∀ t : Tm,slimT t.abs = true → ∀ L B,saneT (runN g t L B).1.abs = true := by
  refine Tm.ind ?_
  intro t ih hs L B
  obtain ⟨h1,_,h3,h4⟩ := slim_tm hs
  rw [runN_eq]
  cases e : g t B with
  | some x => exact hg t hs B x e
  | none =>
    show saneT (bareT t (runNs g t.kids.el (L - 1) B).1).abs = true
    rw [bare_abs]
    refine (sane_eq _).2 ⟨⟨?_,?_⟩,?_⟩
    · show (if t.abs.form = 2 ∨ t.abs.form = 10 then t.abs.levels else []).length ≤ _
      rw [abs_form,abs_levels]
      split
      · rename_i hh
        have := (h3 hh).1
        rw [List.length_map]; omega
      · simp
    · show ((runNs g t.kids.el (L - 1) B).1.map Tm.abs).length ≤ _
      rw [List.length_map,runNs_len]; omega
    · intro k hk
      obtain ⟨x,hx,rfl⟩ := List.mem_map.1 hk
      have key : ∀ ks : List Tm,(∀ k,k ∈ ks → k ∈ t.kids.el) → ∀ (L B : Int),∀ x,x ∈ (runNs g ks L B).1 → saneT x.abs = true := by
        intro ks
        induction ks with
        | nil => intro _ L B x hx; rw [runNs_nil] at hx; cases hx
        | cons k ks ihk =>
          intro hks L B x hx
          rw [runNs_cons] at hx
          rcases List.mem_cons.1 hx with rfl | hx
          · exact ih k (hks k (by simp)) (h4 k (hks k (by simp))) _ _
          · exact ihk (fun x hx => hks x (by simp [hx])) _ _ x hx
      exact key t.kids.el (fun _ h => h) (L - 1) B x hx
theorem sane_runI (args : Sl SLev) (t : Tm) (hs : slimT t.abs = true) (L B : Int) : saneT (runN (gI args) t L B).1.abs = true := run2_sane (fun t hs B x h => by
  obtain ⟨_,_,h3,_⟩ := slim_tm hs
  unfold gI at h
  split at h
  · cases h; exact sane_zero
  · split at h
    · cases h
    · cases h
      rw [sane_eq]
      refine ⟨⟨?_,?_⟩,fun k hk => by cases hk⟩
      · rw [abs_levels,List.length_map]
        show (t.levels.el.map (lvR args)).length ≤ _
        rw [List.length_map]
        have := (h3 (by omega)).1
        omega
      · exact Nat.zero_le _) t hs L B
def tLev (args : Sl SLev) (t : Tm) : Tm × Int := if checkT t.abs ≠ 0 then (zeroT,checkT t.abs) else if (runN (gI args) t 1099511627776 0).2.2 ≠ 0 then (zeroT,(runN (gI args) t 1099511627776 0).2.2) else if checkT (runN (gI args) t 1099511627776 0).1.abs ≠ 0 then (zeroT,2) else ((runN (gI args) t 1099511627776 0).1,0)
set_option maxHeartbeats 4000000 in
theorem tLevels (t : Tm) (hw : fewT t.abs = true) (hs : saneT t.abs = true) (args : Sl SLev) (ha : args.el.length < 1000000000000) (hz : ∀ a,a ∈ args.el → sizeOk a) (n : Nat) (h : Hps) (hg : Gd n h) : callFn (LX (cF Try.prog)) n h [(D.agg [.int .i64 (t).form,.int .i64 (t).n,.bool (t).hid,.str (t).name,slD 2 encL (t).levels,slD 6 encT (t).kids]),slD 2 encL args] (cF Try.prog 53) = .ok (.tup [encT (tLev args t).1,.int .i64 (tLev args t).2]) n h := by
  have hG : ∀ m,n ≤ m → Gd m h := fun m hm => hg.mono hm
  have c1 : ∀ m h,Gd m h → callFn (LX (cF Try.prog)) m h [(D.agg [.int .i64 (t).form,.int .i64 (t).n,.bool (t).hid,.str (t).name,slD 2 encL (t).levels,slD 6 encT (t).kids])] (cF Try.prog 22) = .ok (.int .i64 (checkT t.abs)) m h := pCheck t hs
  unfold tLev
  by_cases hc : checkT t.abs = 0
  · rw [if_neg (fun e => e hc)]
    obtain ⟨g1,g2,g3⟩ := good_parts hc
    have hsl := slim_of _ g1 hw
    have c2 : ∀ m h,Gd m h → callFn (LX (cF Try.prog)) m h [(D.agg [.int .i64 (t).form,.int .i64 (t).n,.bool (t).hid,.str (t).name,slD 2 encL (t).levels,slD 6 encT (t).kids]),slD 2 encL args] (cF Try.prog 89) = .ok (.tup [encT (runN (gI args) t 1099511627776 0).1,.int .i64 (runN (gI args) t 1099511627776 0).2.2]) m h := fun m h hg => pInLevels m h hg t args ha hz hsl (by omega) (by omega)
    have xs := sane_runI args t hsl 1099511627776 0
    generalize runN (gI args) t 1099511627776 0 = X at c2 xs ⊢
    rw [encT_eq X.1] at c2
    by_cases he : X.2.2 = 0
    · rw [if_neg (fun e => e he)]
      have c4 : ∀ m h,Gd m h → callFn (LX (cF Try.prog)) m h [(D.agg [.int .i64 (X.1).form,.int .i64 (X.1).n,.bool (X.1).hid,.str (X.1).name,slD 2 encL (X.1).levels,slD 6 encT (X.1).kids]),.int .i64 0] (cF Try.prog 58) = .ok (if (0 : Int) < 0 ∨ checkT X.1.abs ≠ 0 then .tup [(D.agg [.int .i64 0,.int .i64 0,.bool false,.str [],.nils,.nils]),.int .i64 2] else .tup [(D.agg [.int .i64 (X.1).form,.int .i64 (X.1).n,.bool (X.1).hid,.str (X.1).name,slD 2 encL (X.1).levels,slD 6 encT (X.1).kids]),.int .i64 0]) m h := fun m h hg => pTold X.1 xs 0 m h hg
      by_cases hy : checkT X.1.abs = 0
      · rw [if_neg (by omega)] at c4
        rw [if_neg (fun e => e hy),encT_eq X.1]
        rw [f53_eq]; unfold c53; rw [callFn_eq (by rfl)]
        simp (disch:=first|assumption|omega|(simp (disch:=first|assumption|omega) only [sB,reduceAdd,reduceLT,reduceLeDiff,reduceEqDiff,reduceMul,↓reduceIte,hG,gd_tm,gd_zt];done)|fail) only [sA,↓reduceIte,reduceLT,reduceEqDiff,reduceAdd,reduceLeDiff,c1,hc,c2,he,c4,hG,gd_tm,gd_zt]
        exact fin_tri hg (flat2T _) (flatTA _) (flatTA _) (flatTA _) (by omega) (by omega)
      · rw [if_pos (.inr hy)] at c4
        rw [if_pos hy,enc_zero]
        rw [f53_eq]; unfold c53; rw [callFn_eq (by rfl)]
        simp (disch:=first|assumption|omega|(simp (disch:=first|assumption|omega) only [sB,reduceAdd,reduceLT,reduceLeDiff,reduceEqDiff,reduceMul,↓reduceIte,hG,gd_tm,gd_zt];done)|fail) only [sA,↓reduceIte,reduceLT,reduceEqDiff,reduceAdd,reduceLeDiff,c1,hc,c2,he,c4,hG,gd_tm,gd_zt]
        exact fin_tri hg rfl rfl (flatTA _) (flatTA _) (by omega) (by omega)
    · rw [if_pos he,enc_zero]
      rw [f53_eq]; unfold c53; rw [callFn_eq (by rfl)]
      simp (disch:=first|assumption|omega|(simp (disch:=first|assumption|omega) only [sB,reduceAdd,reduceLT,reduceLeDiff,reduceEqDiff,reduceMul,↓reduceIte,hG,gd_tm,gd_zt];done)|fail) only [sA,↓reduceIte,reduceLT,reduceEqDiff,reduceAdd,reduceLeDiff,c1,hc,c2,he,hG,gd_tm,gd_zt]
      exact fin_tri hg rfl rfl (flatTA _) (flatTA _) (by omega) (by omega)
  · rw [if_pos hc,enc_zero]
    rw [f53_eq]; unfold c53; rw [callFn_eq (by rfl)]
    simp (disch:=first|assumption|omega|(simp (disch:=first|assumption|omega) only [sB,reduceAdd,reduceLT,reduceLeDiff,reduceEqDiff,reduceMul,↓reduceIte,hG,gd_tm,gd_zt];done)|fail) only [sA,↓reduceIte,reduceLT,reduceEqDiff,reduceAdd,reduceLeDiff,c1,hc,hG,gd_tm,gd_zt]
    exact fin_pair hg rfl rfl (flatTA _) (by omega)
end Go.Proofs.Ytdijijblccmfbaa
set_option linter.unusedSimpArgs false
set_option linter.unusedVariables false
namespace Go.Proofs.Ytdijijblccmfbaa
open Go
open Nat (reduceAdd reduceLT reduceLeDiff reduceEqDiff reduceMul)

mutual
def putM (args : Sl SLev) : Tm → Option Tm
  | .mk f n hd nm ls _ _ ks _ => bif decide (f = 2 ∨ f = 10) && ls.el.any (fun x => !decide (lvE args x = 0)) then none else match putMs args ks with
    | none => none
    | some ks' => some (.mk f n hd nm (if f = 2 ∨ f = 10 then Sl.app (ls.el.map (lvR args)) else ls) true false ks' [])
def putMs (args : Sl SLev) : List Tm → Option (List Tm)
  | [] => some []
  | k :: ks => match putM args k with
    | none => none
    | some k' => match putMs args ks with
      | none => none
      | some ks' => some (k' :: ks')
end
theorem putM_eq (args : Sl SLev) (t : Tm) : putM args t = bif decide (t.form = 2 ∨ t.form = 10) && t.levels.el.any (fun x => !decide (lvE args x = 0)) then none else match putMs args t.kids.el with
    | none => none
    | some ks' => some (.mk t.form t.n t.hid t.name (if t.form = 2 ∨ t.form = 10 then Sl.app (t.levels.el.map (lvR args)) else t.levels) true false ks' []) := by cases t; rw [putM]; rfl
theorem putMs_nil (args : Sl SLev) : putMs args [] = some [] := by rw [putMs]
theorem putMs_cons (args : Sl SLev) (k : Tm) (ks : List Tm) : putMs args (k :: ks) = match putM args k with
    | none => none
    | some k' => match putMs args ks with
      | none => none
      | some ks' => some (k' :: ks') := by rw [putMs]
theorem putMs_app (args : Sl SLev) (m : List Tm) : ∀ l : List Tm,putMs args (l ++ m) = match putMs args l with
    | none => none
    | some l' => match putMs args m with
      | none => none
      | some m' => some (l' ++ m')
  | [] => by
    rw [List.nil_append,putMs_nil]
    cases putMs args m <;> rfl
  | k :: l => by
    rw [List.cons_append,putMs_cons,putMs_cons,putMs_app args m l]
    cases putM args k with
    | none => rfl
    | some k' => cases putMs args l with
      | none => rfl
      | some l' => cases putMs args m <;> rfl
theorem putMs_take (args : Sl SLev) {ks : List Tm} {i : Nat} (hi : i < ks.length) {a : List Tm} (h : putMs args (ks.take i) = some a) : putMs args (ks.take (i + 1)) = match putM args ks[i] with
    | none => none
    | some k' => some (a ++ [k']) := by
  rw [List.take_succ_eq_append_getElem hi,putMs_app,h,putMs_cons,putMs_nil]
  cases putM args ks[i] <;> rfl
theorem putMs_none (args : Sl SLev) {ks : List Tm} {i : Nat} (h : putMs args (ks.take i) = none) : putMs args ks = none := by
  rw [← List.take_append_drop i ks,putMs_app,h]
theorem putMs_len (args : Sl SLev) : ∀ (l a : List Tm),putMs args l = some a → a.length = l.length
  | [],a,h => by rw [putMs_nil] at h; cases h; rfl
  | k :: l,a,h => by
    rw [putMs_cons] at h
    cases e : putM args k with
    | none => rw [e] at h; cases h
    | some k' =>
      rw [e] at h
      cases e2 : putMs args l with
      | none => rw [e2] at h; cases h
      | some l' =>
        rw [e2] at h
        cases h
        rw [List.length_cons,List.length_cons,putMs_len args l l' e2]
theorem refI (x : SLev) (args : Sl SLev) (n : Nat) (h : Hps) (hg : Gd n h) (hs : x.vs.el.length < 1000000000000) (ha : args.el.length < 1000000000000) (hz : ∀ a,a ∈ args.el → sizeOk a) :
    callFn (LX (cF Try.prog)) n h [encL x,slD 2 encL args] (cF Try.prog 117) = .ok (.tup [encL (lvR args x),.int .i64 (lvE args x)]) n h := by
  have := refSubst n h hg x.n (slD 2 encV x.vs) x.vs.el (adV x.vs) (svV x.vs) hs args ha hz
  rw [← subst_same] at this
  exact this
set_option maxHeartbeats 8000000 in
theorem plLevs (n : Nat) (h : Hps) (t : Tm) (args : Sl SLev) (ha : args.el.length < 1000000000000) (hz : ∀ a,a ∈ args.el → sizeOk a) (hl : t.levels.el.length ≤ 1000000000) (hs : ∀ x,x ∈ t.levels.el → x.vs.el.length ≤ 1000000000)
    {e : Tr} {n0 : Nat} {h' : Hps} {R : Re} (hr : LX (cF Try.prog) (.loop l90_0) e n0 h' = R) (H : Hp n h n0 h') (p0 : n + 2 ≤ n0) (b0 : getO h' n = (Ob.row 6 [.agg [.int .i64 (t).form,.int .i64 (t).n,.bool (t).hid,.str (t).name,slD 2 encL (t).levels,slD 6 encT (t).kids]])) (b1 : getO h' (n + 1) = (Ob.row 6 [.agg [.int .i64 0,.int .i64 0,.bool false,.str [],.nils,.nils]]))
    (g1 : get (po 1) e = slD 2 encL args) (g2 : get (po 2) e = .ptr n 0 0) (g4 : get (po 4) e = .ptr (n + 1) 0 0) (g6 : get (po 6) e = .nils) (g7 : get (po 7) e = .int .i64 0) :
    ∃ x e' n' G,R = .ok x e' n' G ∧ Hp n h n' G ∧ n0 ≤ n' ∧ getO G n = (Ob.row 6 [.agg [.int .i64 (t).form,.int .i64 (t).n,.bool (t).hid,.str (t).name,slD 2 encL (t).levels,slD 6 encT (t).kids]]) ∧ getO G (n + 1) = (Ob.row 6 [.agg [.int .i64 0,.int .i64 0,.bool false,.str [],.nils,.nils]]) ∧ get (po 1) e' = slD 2 encL args ∧ get (po 2) e' = .ptr n 0 0 ∧ get (po 4) e' = .ptr (n + 1) 0 0 ∧
      ((x = .exit 0 ∧ t.levels.el.any (fun x => !decide (lvE args x = 0)) = false ∧ Bld 2 encL n0 (t.levels.el.map (lvR args)) G (get (po 6) e')) ∨ (x = .ret ∧ t.levels.el.any (fun x => !decide (lvE args x = 0)) = true ∧ get (po 5) e' = .bool false)) := by
  refine loop_up hr t.levels.el.length
    (fun i e' n' G => Hp n h n' G ∧ n0 ≤ n' ∧ getO G n = (Ob.row 6 [.agg [.int .i64 (t).form,.int .i64 (t).n,.bool (t).hid,.str (t).name,slD 2 encL (t).levels,slD 6 encT (t).kids]]) ∧ getO G (n + 1) = (Ob.row 6 [.agg [.int .i64 0,.int .i64 0,.bool false,.str [],.nils,.nils]]) ∧ get (po 1) e' = slD 2 encL args ∧ get (po 2) e' = .ptr n 0 0 ∧ get (po 4) e' = .ptr (n + 1) 0 0 ∧ (t.levels.el.take i).any (fun x => !decide (lvE args x = 0)) = false ∧ Bld 2 encL n0 ((t.levels.el.take i).map (lvR args)) G (get (po 6) e') ∧ get (po 7) e' = .int .i64 (i : Nat))
    _ ?_ ?_ ⟨H,Nat.le_refl _,b0,b1,g1,g2,g4,rfl,.inl ⟨rfl,g6⟩,g7⟩
  · rintro e' n' G ⟨H,p1,b0,b1,g1,g2,g4,hn,B,g7⟩
    rw [List.take_length] at B hn
    unfold l90_0
    simp (disch:=first|assumption|omega|(simp (disch:=first|assumption|omega) only [sB,reduceAdd,reduceLT,reduceLeDiff,reduceEqDiff,reduceMul,↓reduceIte];done)|fail) only [sA,↓reduceIte,reduceLT,reduceEqDiff,reduceAdd,reduceLeDiff,g2,g7,b0]
    exact ⟨_,_,_,_,rfl,by simp,H.mono (by omega),by omega,b0,b1,by simp +decide only [sG,g1],by simp +decide only [sG,g2],by simp +decide only [sG,g4],.inl ⟨rfl,hn,by simp +decide only [sG,B]⟩⟩
  · rintro i e' n' G hi ⟨H,p1,b0,b1,g1,g2,g4,hn,B,g7⟩
    have hx := hs t.levels.el[i] (List.getElem_mem hi)
    have hmem := List.getElem_mem hi
    have em : (t.levels.el.take (i + 1)).map (lvR args) = (t.levels.el.take i).map (lvR args) ++ [lvR args t.levels.el[i]] := by rw [List.take_succ_eq_append_getElem hi,List.map_append]; rfl
    have ey : (t.levels.el.take (i + 1)).any (fun x => !decide (lvE args x = 0)) = !decide (lvE args t.levels.el[i] = 0) := by rw [List.take_succ_eq_append_getElem hi,List.any_append,hn,List.any_cons,List.any_nil,Bool.or_false,Bool.false_or]
    have ez : lvE args t.levels.el[i] ≠ 0 → t.levels.el.any (fun x => !decide (lvE args x = 0)) = true := fun hh => List.any_eq_true.2 ⟨_,hmem,by rw [decide_eq_false hh]; rfl⟩
    have c0 : ∀ m h,Gd m h → callFn (LX (cF Try.prog)) m h [(D.agg [.int .i64 (t.levels.el[i].n),slD 2 encV (t.levels.el[i].vs)]),slD 2 encL args] (cF Try.prog 117) = .ok (.tup [encL (lvR args t.levels.el[i]),.int .i64 (lvE args t.levels.el[i])]) m h := fun m h hg => refI t.levels.el[i] args m h hg (by omega) ha hz
    rw [em,ey]
    generalize lvR args t.levels.el[i] = y at c0 ⊢
    generalize lvE args t.levels.el[i] = z at c0 ez ⊢
    generalize hX : t.levels.el[i] = X at c0
    have eX : encL t.levels.el[i] = (D.agg [.int .i64 (X.n),slD 2 encV (X.vs)]) := by rw [hX]; rfl
    replace c0 : ∀ m h,Gd m h → callFn (LX (cF Try.prog)) m h [(D.agg [.int .i64 (X.n),slD 2 encV (X.vs)]),slD 2 encL args] (cF Try.prog 117) = .ok (.tup [(D.agg [.int .i64 (y.n),slD 2 encV (y.vs)]),.int .i64 z]) m h := c0
    have hG : ∀ m,n' ≤ m → Gd m G := fun m hm k hk => H.good k (by omega)
    have H2 : Hp n h (n' + 18) ((n' + 16,(Ob.row 2 [.agg [.int .i64 (y.n),slD 2 encV (y.vs)]])) :: G) := H.box (r := n' + 16) (m := n' + 18) (by omega) (by omega) (flatL _)
    have hbo := B.okD
    generalize hd : get (po 6) e' = d at B hbo
    have B2 : Bld 2 encL n0 ((t.levels.el.take i).map (lvR args)) ((n' + 16,(Ob.row 2 [.agg [.int .i64 (y.n),slD 2 encV (y.vs)]])) :: G) d := B.cons (H.good n' (Nat.le_refl _)) (by omega)
    obtain ⟨D',H',A⟩ := app_bldx (b := 32) B2 H2 (by omega) (by omega) lowL [y] (by simp; omega)
    have A1 := fun m hm => (A m hm).1
    have A2 := fun m hm => (A m hm).2.1
    have A3 := fun m hm => (A m hm).2.2.1
    have A4 := fun m hm => (A m hm).2.2.2.1
    simp only [encL,List.map_cons,List.map_nil] at A1
    have w1 : ∀ X,getO (setO G (n + 1) X) (n + 1) = X := fun X => getO_setO_same (by rw [b1]; simp)
    unfold l90_0
    by_cases hz0 : z = 0
    · subst hz0
      simp (disch:=first|assumption|omega|(simp (disch:=first|assumption|omega) only [sB,reduceAdd,reduceLT,reduceLeDiff,reduceEqDiff,reduceMul,↓reduceIte,app_el,hi,hG];done)|fail) only [sA,↓reduceIte,reduceLT,reduceEqDiff,reduceAdd,reduceLeDiff,g1,g2,g4,g7,hd,eX,c0,b0,b1,hbo,A1,app_el,hi,hG]
      refine ⟨_,_,_,_,rfl,.inl ⟨rfl,(A3 (n' + 24) (by omega)).mono (by omega),by omega,by rw [A4 _ (by omega) _ (by omega),getO_tl (by omega)]; exact b0,by rw [A4 _ (by omega) _ (by omega),getO_tl (by omega)]; exact b1,by simp +decide only [sG,g1],by simp +decide only [sG,g2],by simp +decide only [sG,g4],trivial,by simp (disch:=first|assumption|omega|(simp (disch:=first|assumption|omega) only [sB,reduceAdd,reduceLT,reduceLeDiff,reduceEqDiff,reduceMul,↓reduceIte];done)|fail) only [sA,↓reduceIte,reduceLT,reduceEqDiff,reduceAdd,reduceLeDiff,A2 (n' + 24) (by omega)],by simp +decide only [sG]⟩⟩
    · simp (disch:=first|assumption|omega|(simp (disch:=first|assumption|omega) only [sB,reduceAdd,reduceLT,reduceLeDiff,reduceEqDiff,reduceMul,↓reduceIte,app_el,hi,hG];done)|fail) only [sA,↓reduceIte,reduceLT,reduceEqDiff,reduceAdd,reduceLeDiff,g1,g2,g4,g7,hd,eX,c0,b0,b1,hz0,app_el,hi,hG]
      exact ⟨_,_,_,_,rfl,.inr ⟨by simp,(H.set (r := n + 1) (by omega) (fun k _ => lowO_one (low_flat rfl))).box (r := n' + 16) (m := n' + 24) (by omega) (by omega) (flatL _),by omega,by rw [getO_tl (by omega)]; exact getO_set2 b1 b0 (by omega),by rw [getO_tl (by omega)]; exact w1 _,by simp +decide only [sG,g1],by simp +decide only [sG,g2],by simp +decide only [sG,g4],.inr ⟨rfl,ez hz0,by simp +decide only [sG]⟩⟩⟩
noncomputable def putD (o : Option Tm) : D := match o with | none => .tup [(D.agg [.int .i64 0,.int .i64 0,.bool false,.str [],.nils,.nils]),.bool false] | some u => .tup [encT u,.bool true]
set_option maxHeartbeats 8000000 in
theorem plKids (n : Nat) (h : Hps) (t : Tm) (args : Sl SLev) (hk : t.kids.el.length ≤ 1000000000) (ih : ∀ k,k ∈ t.kids.el → ∀ n h,Gd n h → callFn (LX (cF Try.prog)) n h [(D.agg [.int .i64 (k).form,.int .i64 (k).n,.bool (k).hid,.str (k).name,slD 2 encL (k).levels,slD 6 encT (k).kids]),slD 2 encL args] (cF Try.prog 90) = .ok (putD (putM args k)) n h)
    {dL : D} {e : Tr} {n0 : Nat} {h' : Hps} {R : Re} (hr : LX (cF Try.prog) (.loop l90_1) e n0 h' = R) (H : Hp n h n0 h') (p0 : n + 2 ≤ n0) (b0 : getO h' n = .row 6 [.agg [.int .i64 t.form,.int .i64 t.n,.bool t.hid,.str t.name,dL,slD 6 encT t.kids]]) (b1 : getO h' (n + 1) = (Ob.row 6 [.agg [.int .i64 0,.int .i64 0,.bool false,.str [],.nils,.nils]]))
    (g1 : get (po 1) e = slD 2 encL args) (g2 : get (po 2) e = .ptr n 0 0) (g4 : get (po 4) e = .ptr (n + 1) 0 0) (g10 : get (po 10) e = .nils) (g11 : get (po 11) e = .int .i64 0) :
    ∃ x e' n' G,R = .ok x e' n' G ∧ Hp n h n' G ∧ n0 ≤ n' ∧ (∀ q,q < n0 → getO G q = getO h' q) ∧ get (po 2) e' = .ptr n 0 0 ∧ get (po 4) e' = .ptr (n + 1) 0 0 ∧
      ((x = .exit 2 ∧ ∃ ks,putMs args t.kids.el = some ks ∧ Bld 6 encT n0 ks G (get (po 10) e')) ∨ (x = .ret ∧ putMs args t.kids.el = none ∧ get (po 5) e' = .bool false)) := by
  refine loop_up hr t.kids.el.length
    (fun i e' n' G => Hp n h n' G ∧ n0 ≤ n' ∧ (∀ q,q < n0 → getO G q = getO h' q) ∧ get (po 1) e' = slD 2 encL args ∧ get (po 2) e' = .ptr n 0 0 ∧ get (po 4) e' = .ptr (n + 1) 0 0 ∧ (∃ ks,putMs args (t.kids.el.take i) = some ks ∧ Bld 6 encT n0 ks G (get (po 10) e')) ∧ get (po 11) e' = .int .i64 (i : Nat))
    _ ?_ ?_ ⟨H,Nat.le_refl _,fun _ _ => rfl,g1,g2,g4,⟨[],by rw [List.take_zero,putMs_nil],.inl ⟨rfl,g10⟩⟩,g11⟩
  · rintro e' n' G ⟨H,p1,kp,g1,g2,g4,⟨ks,hn,B⟩,g11⟩
    rw [List.take_length] at hn
    have z0 := (kp n (by omega)).trans b0
    unfold l90_1
    simp (disch:=first|assumption|omega|(simp (disch:=first|assumption|omega) only [sB,reduceAdd,reduceLT,reduceLeDiff,reduceEqDiff,reduceMul,↓reduceIte];done)|fail) only [sA,↓reduceIte,reduceLT,reduceEqDiff,reduceAdd,reduceLeDiff,g2,g11,z0]
    exact ⟨_,_,_,_,rfl,by simp,H.mono (by omega),by omega,kp,by simp +decide only [sG,g2],by simp +decide only [sG,g4],.inl ⟨rfl,ks,hn,by simp +decide only [sG,B]⟩⟩
  · rintro i e' n' G hi ⟨H,p1,kp,g1,g2,g4,⟨ks,hn,B⟩,g11⟩
    have z0 := (kp n (by omega)).trans b0
    have z1 := (kp (n + 1) (by omega)).trans b1
    have c1 := ih t.kids.el[i] (List.getElem_mem hi)
    have eW : encT t.kids.el[i] = (D.agg [.int .i64 (t.kids.el[i]).form,.int .i64 (t.kids.el[i]).n,.bool (t.kids.el[i]).hid,.str (t.kids.el[i]).name,slD 2 encL (t.kids.el[i]).levels,slD 6 encT (t.kids.el[i]).kids]) := encT_eq _
    have ht := putMs_take args hi hn
    have hlen := putMs_len args _ _ hn
    rw [List.length_take] at hlen
    have hbo := B.okD
    have hG : ∀ m,n' ≤ m → Gd m G := fun m hm k hk => H.good k (by omega)
    generalize hd : get (po 10) e' = d at B hbo
    have w1 : ∀ X,getO (setO G (n + 1) X) (n + 1) = X := fun X => getO_setO_same (by rw [z1]; simp)
    unfold l90_1
    cases hp : putM args t.kids.el[i] with
    | none =>
      rw [hp] at c1 ht
      replace c1 : ∀ n h,Gd n h → callFn (LX (cF Try.prog)) n h [(D.agg [.int .i64 (t.kids.el[i]).form,.int .i64 (t.kids.el[i]).n,.bool (t.kids.el[i]).hid,.str (t.kids.el[i]).name,slD 2 encL (t.kids.el[i]).levels,slD 6 encT (t.kids.el[i]).kids]),slD 2 encL args] (cF Try.prog 90) = .ok (.tup [(D.agg [.int .i64 0,.int .i64 0,.bool false,.str [],.nils,.nils]),.bool false]) n h := c1
      simp (disch:=first|assumption|omega|(simp (disch:=first|assumption|omega) only [sB,reduceAdd,reduceLT,reduceLeDiff,reduceEqDiff,reduceMul,↓reduceIte,app_el,hi,hG];done)|fail) only [sA,↓reduceIte,reduceLT,reduceEqDiff,reduceAdd,reduceLeDiff,g1,g2,g4,g11,hd,eW,c1,z0,z1,app_el,hi,hG]
      exact ⟨_,_,_,_,rfl,.inr ⟨by simp,(H.set (r := n + 1) (by omega) (fun k _ => lowO_one (low_flat rfl))).box (r := n' + 16) (m := n' + 24) (k := 6) (d := (D.agg [.int .i64 0,.int .i64 0,.bool false,.str [],.nils,.nils])) (by omega) (by omega) rfl,by omega,fun q hq => by
        rw [getO_tl (by omega)]
        by_cases hq1 : q = n + 1
        · subst hq1; rw [w1]; exact b1.symm
        · rw [getO_set2 z1 rfl hq1]; exact kp q hq,by simp +decide only [sG,g2],by simp +decide only [sG,g4],.inr ⟨rfl,putMs_none args ht,by simp +decide only [sG]⟩⟩⟩
    | some u =>
      rw [hp] at c1 ht
      have c2 : ∀ n h,Gd n h → callFn (LX (cF Try.prog)) n h [(D.agg [.int .i64 (t.kids.el[i]).form,.int .i64 (t.kids.el[i]).n,.bool (t.kids.el[i]).hid,.str (t.kids.el[i]).name,slD 2 encL (t.kids.el[i]).levels,slD 6 encT (t.kids.el[i]).kids]),slD 2 encL args] (cF Try.prog 90) = .ok (.tup [(D.agg [.int .i64 (u).form,.int .i64 (u).n,.bool (u).hid,.str (u).name,slD 2 encL (u).levels,slD 6 encT (u).kids]),.bool true]) n h := fun n h hg => by
        rw [c1 n h hg]; show Rd.ok (.tup [encT u,_]) n h = _; rw [encT_eq]
      have H2 : Hp n h (n' + 18) ((n' + 16,(Ob.row 6 [.agg [.int .i64 (u).form,.int .i64 (u).n,.bool (u).hid,.str (u).name,slD 2 encL (u).levels,slD 6 encT (u).kids]])) :: G) := H.box (r := n' + 16) (m := n' + 18) (by omega) (by omega) (flatTA u)
      have B2 : Bld 6 encT n0 ks ((n' + 16,(Ob.row 6 [.agg [.int .i64 (u).form,.int .i64 (u).n,.bool (u).hid,.str (u).name,slD 2 encL (u).levels,slD 6 encT (u).kids]])) :: G) d := B.cons (H.good n' (Nat.le_refl _)) (by omega)
      obtain ⟨D',H',A⟩ := app_bldx (b := 88) B2 H2 (by omega) (by omega) (fun m x => low_flat (flatT x)) [u] (by simp; omega)
      have A1 := fun m hm => (A m hm).1
      have A2 := fun m hm => (A m hm).2.1
      have A3 := fun m hm => (A m hm).2.2.1
      have A4 := fun m hm => (A m hm).2.2.2.1
      simp only [List.map_cons,List.map_nil,encT_eq u] at A1
      simp (disch:=first|assumption|omega|(simp (disch:=first|assumption|omega) only [sB,reduceAdd,reduceLT,reduceLeDiff,reduceEqDiff,reduceMul,↓reduceIte,app_el,hi,hG];done)|fail) only [sA,↓reduceIte,reduceLT,reduceEqDiff,reduceAdd,reduceLeDiff,g1,g2,g4,g11,hd,eW,c2,z0,z1,hbo,A1,app_el,hi,hG]
      exact ⟨_,_,_,_,rfl,.inl ⟨rfl,(A3 (n' + 24) (by omega)).mono (by omega),by omega,fun q hq => by rw [A4 _ (by omega) _ (by omega),getO_tl (by omega)]; exact kp q hq,by simp +decide only [sG,g1],by simp +decide only [sG,g2],by simp +decide only [sG,g4],⟨_,ht,by simp (disch:=first|assumption|omega|(simp (disch:=first|assumption|omega) only [sB,reduceAdd,reduceLT,reduceLeDiff,reduceEqDiff,reduceMul,↓reduceIte];done)|fail) only [sA,↓reduceIte,reduceLT,reduceEqDiff,reduceAdd,reduceLeDiff,A2 (n' + 24) (by omega)]⟩,by simp +decide only [sG]⟩⟩
set_option maxHeartbeats 8000000 in
theorem plFin (n : Nat) (h : Hps) (t : Tm) (args : Sl SLev) (hk : t.kids.el.length ≤ 1000000000) (ih : ∀ k,k ∈ t.kids.el → ∀ n h,Gd n h → callFn (LX (cF Try.prog)) n h [(D.agg [.int .i64 (k).form,.int .i64 (k).n,.bool (k).hid,.str (k).name,slD 2 encL (k).levels,slD 6 encT (k).kids]),slD 2 encL args] (cF Try.prog 90) = .ok (putD (putM args k)) n h)
    {dL : D} {L' : Sl SLev} {e : Tr} {n0 : Nat} {h' : Hps} {R : Re} (hr : LX (cF Try.prog) (.loop l90_1) e n0 h' = R) (H : Hp n h n0 h') (p0 : n + 2 ≤ n0) (b0 : getO h' n = .row 6 [.agg [.int .i64 t.form,.int .i64 t.n,.bool t.hid,.str t.name,dL,slD 6 encT t.kids]]) (b1 : getO h' (n + 1) = (Ob.row 6 [.agg [.int .i64 0,.int .i64 0,.bool false,.str [],.nils,.nils]]))
    (hdL : ∀ m,n0 ≤ m → hasR m 19 dL = false) (hF : ∀ G',(∀ q,n + 2 ≤ q → q < n0 → getO G' q = getO h' q) → Fz 3 n G' dL (slD 2 encL L'))
    (g1 : get (po 1) e = slD 2 encL args) (g2 : get (po 2) e = .ptr n 0 0) (g4 : get (po 4) e = .ptr (n + 1) 0 0) (g10 : get (po 10) e = .nils) (g11 : get (po 11) e = .int .i64 0) :
    finish n [RV.cell (po 4) true 6,RV.tmp (po 5)] (seqR (LX (cF Try.prog)) ((DCode.reg [DOper.op (some (po 72)) none (DOp.mv (Opd.s (po 10))),DOper.op (some (po 73)) none (DOp.faddr 5 (Opd.s (po 2))),DOper.op none none (DOp.store false 1 (Opd.s (po 73)) (Opd.s (po 72)))]).seq ((DCode.reg [DOper.op (some (po 74)) none (DOp.load true 6 (Opd.s (po 2))),DOper.op none none (DOp.store true 6 (Opd.s (po 4)) (Opd.s (po 74))),DOper.op (some (po 5)) none (DOp.mv (Opd.k (D.bool true)))]).seq DCode.ret)) (blockR 2 R)) = .ok (putD (match putMs args t.kids.el with | none => none | some ks => some (.mk t.form t.n t.hid t.name L' true false ks []))) n h := by
  obtain ⟨x,e',n',G,rfl,H2,p1,kp,q2,q4,hx⟩ := plKids n h t args hk ih hr H p0 b0 b1 g1 g2 g4 g10 g11
  have z0 := (kp n (by omega)).trans b0
  have z1 := (kp (n + 1) (by omega)).trans b1
  rcases hx with ⟨rfl,ks,hks,B⟩ | ⟨rfl,hks,q5⟩
  · rw [hks]
    generalize hd : get (po 10) e' = d at B
    have hone := B.one
    have hlo := B.lowF (H2.good n' (Nat.le_refl _)) 18
    show _ = Rd.ok (.tup [encT _,.bool true]) n h
    rw [encT_eq]
    show _ = Rd.ok (.tup [.agg [.int .i64 t.form,.int .i64 t.n,.bool t.hid,.str t.name,slD 2 encL L',slD 6 encT (Sl.app ks)],.bool true]) n h
    have w0 : ∀ X,getO (setO G n X) n = X := fun X => getO_setO_same (by rw [z0]; simp)
    have w1 : ∀ X,getO (setO G n X) (n + 1) = (Ob.row 6 [.agg [.int .i64 0,.int .i64 0,.bool false,.str [],.nils,.nils]]) := fun X => getO_set2 z0 z1 (by omega)
    have w2 : ∀ X Y,getO (setO (setO G n X) (n + 1) Y) (n + 1) = Y := fun X Y => getO_setO_same (by rw [w1]; simp)
    have lo : ∀ k,n' ≤ k → lowO k (.row 6 [.agg [.int .i64 t.form,.int .i64 t.n,.bool t.hid,.str t.name,dL,d]]) := fun k hk => lowO_one (low_agg6 (hdL k (by omega)) (B.lowF (H2.good k hk) 18))
    have HH : ∀ m,n' ≤ m → Hp n h m (setO (setO G n (.row 6 [.agg [.int .i64 t.form,.int .i64 t.n,.bool t.hid,.str t.name,dL,d]])) (n + 1) (.row 6 [.agg [.int .i64 t.form,.int .i64 t.n,.bool t.hid,.str t.name,dL,d]])) := fun m hm => ((H2.set (r := n) (by omega) lo).set (r := n + 1) (by omega) lo).mono hm
    have BK : Bld 6 encT n ks (setO (setO G n (.row 6 [.agg [.int .i64 t.form,.int .i64 t.n,.bool t.hid,.str t.name,dL,d]])) (n + 1) (.row 6 [.agg [.int .i64 t.form,.int .i64 t.n,.bool t.hid,.str t.name,dL,d]])) d := ((B.set z0 (by omega)).set (w1 _) (by omega)).wide (by omega)
    have BL := hF (setO (setO G n (.row 6 [.agg [.int .i64 t.form,.int .i64 t.n,.bool t.hid,.str t.name,dL,d]])) (n + 1) (.row 6 [.agg [.int .i64 t.form,.int .i64 t.n,.bool t.hid,.str t.name,dL,d]])) (fun q h1 h2 => by rw [getO_set2 (w1 _) rfl (by omega),getO_set2 z0 rfl (by omega)]; exact kp q h2)
    have F := fun m hm => finishD_fz (n := m) (Fz.tup (.cons (Fz.agg (.cons ((Fz.of1 (d := .int .i64 t.form) rfl).mono (show 1 ≤ 3 by omega)) (.cons ((Fz.of1 (d := .int .i64 t.n) rfl).mono (show 1 ≤ 3 by omega)) (.cons ((Fz.of1 (d := .bool t.hid) rfl).mono (show 1 ≤ 3 by omega)) (.cons ((Fz.of1 (d := .str t.name) rfl).mono (show 1 ≤ 3 by omega)) (.cons BL (.cons (Fz.bld elemT BK) .nil))))))) (.cons ((Fz.of1 (d := .bool true) rfl).mono (show 1 ≤ 4 by omega)) .nil))) (by omega) (HH m hm).leak
    simp (disch:=first|assumption|omega|(simp (disch:=first|assumption|omega) only [sB,reduceAdd,reduceLT,reduceLeDiff,reduceEqDiff,reduceMul,↓reduceIte];done)|fail) only [sA,↓reduceIte,reduceLT,reduceEqDiff,reduceAdd,reduceLeDiff,q2,q4,hd,z0,w0,w1,w2,hone]
    rw [F _ (by omega),(HH _ (Nat.le_refl _)).drop]
  · rw [hks]
    show _ = Rd.ok (.tup [(D.agg [.int .i64 0,.int .i64 0,.bool false,.str [],.nils,.nils]),.bool false]) n h
    simp (disch:=first|assumption|omega|(simp (disch:=first|assumption|omega) only [sB,reduceAdd,reduceLT,reduceLeDiff,reduceEqDiff,reduceMul,↓reduceIte];done)|fail) only [sA,↓reduceIte,reduceLT,reduceEqDiff,reduceAdd,reduceLeDiff,q4,q5,z1]
    exact finish_flat rfl (H2.mono (by omega))
set_option maxHeartbeats 16000000 in
theorem rPut (args : Sl SLev) (ha : args.el.length < 1000000000000) (hz : ∀ a,a ∈ args.el → sizeOk a) : ∀ t : Tm,sizeT1 t.abs = true → ∀ (n : Nat) (h : Hps),Gd n h → callFn (LX (cF Try.prog)) n h [(D.agg [.int .i64 (t).form,.int .i64 (t).n,.bool (t).hid,.str (t).name,slD 2 encL (t).levels,slD 6 encT (t).kids]),slD 2 encL args] (cF Try.prog 90) = .ok (putD (putM args t)) n h := by
  refine Tm.ind ?_
  intro t ih0 hs n h hg
  obtain ⟨⟨hll,hkl⟩,hlv,hks⟩ := size1_tm hs
  have hgn := hg n (Nat.le_refl _)
  have ih := fun k hk => ih0 k hk (hks k hk)
  have HX : Hp n h (n + 2) ((n + 1,(Ob.row 6 [.agg [.int .i64 0,.int .i64 0,.bool false,.str [],.nils,.nils]])) :: (n,(Ob.row 6 [.agg [.int .i64 (t).form,.int .i64 (t).n,.bool (t).hid,.str (t).name,slD 2 encL (t).levels,slD 6 encT (t).kids]])) :: h) := ((Hp.start hg).box (r := n) (m := n + 1) (Nat.le_refl _) (by omega) (flatTA t)).box (r := n + 1) (m := n + 2) (k := 6) (d := (D.agg [.int .i64 0,.int .i64 0,.bool false,.str [],.nils,.nils])) (by omega) (by omega) rfl
  have y0 : getO ((n + 1,(Ob.row 6 [.agg [.int .i64 0,.int .i64 0,.bool false,.str [],.nils,.nils]])) :: (n,(Ob.row 6 [.agg [.int .i64 (t).form,.int .i64 (t).n,.bool (t).hid,.str (t).name,slD 2 encL (t).levels,slD 6 encT (t).kids]])) :: h) n = (Ob.row 6 [.agg [.int .i64 (t).form,.int .i64 (t).n,.bool (t).hid,.str (t).name,slD 2 encL (t).levels,slD 6 encT (t).kids]]) := by rw [getO_tl (by omega),getO_hd]
  rw [putM_eq]
  have hlo : hasR n 19 (slD 2 encL t.levels) = false ∧ ∀ m,hasR m 19 (slD 2 encL t.levels) = false := by
    have : ∀ m,hasR m 19 (slD 2 encL t.levels) = false := fun m => by rcases slD_isSl 2 encL t.levels with ⟨h1,_⟩ | ⟨_,_,h1⟩ <;> rw [h1] <;> rfl
    exact ⟨this n,this⟩
  by_cases hf : t.form = 2 ∨ t.form = 10
  · -- after the levels' loop
    have go : ∀ (e : Tr) (R : Re),LX (cF Try.prog) (.loop l90_0) e (n + 13) ((n + 1,(Ob.row 6 [.agg [.int .i64 0,.int .i64 0,.bool false,.str [],.nils,.nils]])) :: (n,(Ob.row 6 [.agg [.int .i64 (t).form,.int .i64 (t).n,.bool (t).hid,.str (t).name,slD 2 encL (t).levels,slD 6 encT (t).kids]])) :: h) = R → get (po 1) e = slD 2 encL args → get (po 2) e = .ptr n 0 0 → get (po 4) e = .ptr (n + 1) 0 0 → get (po 6) e = .nils → get (po 7) e = .int .i64 0 →
        finish n [RV.cell (po 4) true 6,RV.tmp (po 5)] (seqR (LX (cF Try.prog)) ((DCode.reg [DOper.op (some (po 10)) none (DOp.mv (Opd.k D.nils))]).seq (((DCode.reg [DOper.op (some (po 11)) none (DOp.mv (Opd.k (D.int IntKind.i64 0)))]).seq (DCode.block 2 (.loop l90_1))).seq ((DCode.reg [DOper.op (some (po 72)) none (DOp.mv (Opd.s (po 10))),DOper.op (some (po 73)) none (DOp.faddr 5 (Opd.s (po 2))),DOper.op none none (DOp.store false 1 (Opd.s (po 73)) (Opd.s (po 72)))]).seq ((DCode.reg [DOper.op (some (po 74)) none (DOp.load true 6 (Opd.s (po 2))),DOper.op none none (DOp.store true 6 (Opd.s (po 4)) (Opd.s (po 74))),DOper.op (some (po 5)) none (DOp.mv (Opd.k (D.bool true)))]).seq DCode.ret)))) (seqR (LX (cF Try.prog)) (DCode.reg [DOper.op (some (po 46)) none (DOp.mv (Opd.s (po 6))),DOper.op (some (po 47)) none (DOp.faddr 4 (Opd.s (po 2))),DOper.op none none (DOp.store false 1 (Opd.s (po 47)) (Opd.s (po 46)))]) (blockR 0 R))) =
        .ok (putD (bif decide (t.form = 2 ∨ t.form = 10) && t.levels.el.any (fun x => !decide (lvE args x = 0)) then none else match putMs args t.kids.el with | none => none | some ks' => some (.mk t.form t.n t.hid t.name (if t.form = 2 ∨ t.form = 10 then Sl.app (t.levels.el.map (lvR args)) else t.levels) true false ks' []))) n h := by
      intro e R hr g1 g2 g4 g6 g7
      obtain ⟨x,e',n',G,rfl,H2,p1,z0,z1,q1,q2,q4,hx⟩ := plLevs n h t args ha hz hll hlv hr (HX.mono (by omega)) (by omega) y0 (by rw [getO_hd]) g1 g2 g4 g6 g7
      rw [decide_eq_true hf,Bool.true_and,if_pos hf]
      rcases hx with ⟨rfl,hn,B⟩ | ⟨rfl,hn,q5⟩
      · rw [hn]
        generalize hd : get (po 6) e' = d at B
        have hone := B.one
        have lo : ∀ k,n' ≤ k → lowO k (.row 6 [.agg [.int .i64 t.form,.int .i64 t.n,.bool t.hid,.str t.name,d,slD 6 encT t.kids]]) := fun k hk => lowO_one (low_agg6 (B.lowF (H2.good k hk) 18) (by rcases slD_isSl 6 encT t.kids with ⟨h1,_⟩ | ⟨_,_,h1⟩ <;> rw [h1] <;> rfl))
        simp (disch:=first|assumption|omega|(simp (disch:=first|assumption|omega) only [sB,reduceAdd,reduceLT,reduceLeDiff,reduceEqDiff,reduceMul,↓reduceIte];done)|fail) only [sA,↓reduceIte,reduceLT,reduceEqDiff,reduceAdd,reduceLeDiff,q2,hd,z0,hone]
        generalize hr1 : LX (cF Try.prog) (.loop l90_1) _ _ _ = R
        exact plFin n h t args hkl ih (dL := d) (L' := Sl.app (t.levels.el.map (lvR args))) hr1 ((H2.set (r := n) (by omega) lo).mono (by omega)) (by omega) (getO_setO_same (by rw [z0]; simp)) (getO_set2 z0 z1 (by omega)) (fun m hm => B.lowF (H2.good m (by omega)) 18) (fun G' hG' => Fz.bld elemL ((((B.set (q := n) (x := .row 6 [.agg [.int .i64 t.form,.int .i64 t.n,.bool t.hid,.str t.name,d,slD 6 encT t.kids]]) z0 (by omega)).keep (h' := G') (fun r hr => by
          have hlow := B.low (H2.good n' (Nat.le_refl _))
          subst hr
          have : r < n' := by
            have := hlow
            unfold low at this
            exact Nat.lt_of_not_le (fun hh => by have e2 : hasR n' 20 (.ms 2 r 0 (t.levels.el.map (lvR args)).length false) = Nat.ble n' r := rfl; rw [e2,ble_iff,decide_eq_true hh] at this; cases this)
          rcases B with ⟨_,hB⟩ | ⟨r',_,hr1',hB,_⟩
          · cases hB
          · cases hB
            exact hG' r (by omega) (by omega)))).wide (by omega))) (by simp +decide only [sG,q1]) (by simp +decide only [sG,q2]) (by simp +decide only [sG,q4]) (by simp +decide only [sG]) (by simp +decide only [sG])
      · rw [hn]
        show _ = Rd.ok (.tup [(D.agg [.int .i64 0,.int .i64 0,.bool false,.str [],.nils,.nils]),.bool false]) n h
        simp (disch:=first|assumption|omega|(simp (disch:=first|assumption|omega) only [sB,reduceAdd,reduceLT,reduceLeDiff,reduceEqDiff,reduceMul,↓reduceIte];done)|fail) only [sA,↓reduceIte,reduceLT,reduceEqDiff,reduceAdd,reduceLeDiff,q4,q5,z1]
        exact finish_flat rfl (H2.mono (by omega))
    rw [f90_eq]; unfold c90; rw [callFn_eq (by rfl)]
    by_cases h2 : t.form = 2
    · simp only [h2] at go ⊢
      simp (disch:=first|assumption|omega|(simp (disch:=first|assumption|omega) only [sB,reduceAdd,reduceLT,reduceLeDiff,reduceEqDiff,reduceMul,↓reduceIte];done)|fail) only [sA,↓reduceIte,reduceLT,reduceEqDiff,reduceAdd,reduceLeDiff]
      exact go _ _ rfl (by simp +decide only [sG]) (by simp +decide only [sG]) (by simp +decide only [sG]) (by simp +decide only [sG]) (by simp +decide only [sG])
    · have h10 : t.form = 10 := by omega
      simp only [h10] at go ⊢
      simp (disch:=first|assumption|omega|(simp (disch:=first|assumption|omega) only [sB,reduceAdd,reduceLT,reduceLeDiff,reduceEqDiff,reduceMul,↓reduceIte];done)|fail) only [sA,↓reduceIte,reduceLT,reduceEqDiff,reduceAdd,reduceLeDiff]
      exact go _ _ rfl (by simp +decide only [sG]) (by simp +decide only [sG]) (by simp +decide only [sG]) (by simp +decide only [sG]) (by simp +decide only [sG])
  · rw [decide_eq_false hf,Bool.false_and,if_neg hf]
    have h2 : ¬ t.form = 2 := fun e => hf (.inl e)
    have h10 : ¬ t.form = 10 := fun e => hf (.inr e)
    rw [f90_eq]; unfold c90; rw [callFn_eq (by rfl)]
    simp (disch:=first|assumption|omega|(simp (disch:=first|assumption|omega) only [sB,reduceAdd,reduceLT,reduceLeDiff,reduceEqDiff,reduceMul,↓reduceIte];done)|fail) only [sA,↓reduceIte,reduceLT,reduceEqDiff,reduceAdd,reduceLeDiff,h2,h10]
    generalize hr1 : LX (cF Try.prog) (.loop l90_1) _ _ _ = R
    exact plFin n h t args hkl ih (dL := slD 2 encL t.levels) (L' := t.levels) hr1 (HX.mono (by omega)) (by omega) y0 (by rw [getO_hd]) (fun m hm => hlo.2 m) (fun G' hG' => (Fz.of1 flat1_slD).mono (by omega)) (by simp +decide only [sG]) (by simp +decide only [sG]) (by simp +decide only [sG]) (by simp +decide only [sG]) (by simp +decide only [sG])
end Go.Proofs.Ytdijijblccmfbaa
set_option linter.unusedSimpArgs false
set_option linter.unusedVariables false
namespace Go.Proofs.Ytdijijblccmfbaa
open Go Go.ChangeShapes Go.WideShapes Go.ChangeAt Go.RowKit
open Nat (reduceAdd reduceLT reduceLeDiff reduceEqDiff reduceMul)

theorem size1_eq (t : Trm) : sizeT1 t = true ↔ ((t.levels.length ≤ 1000000000 ∧ t.kids.length ≤ 1000000000) ∧ ∀ x,x ∈ t.levels → x.v.length ≤ 1000000000) ∧ ∀ k,k ∈ t.kids → sizeT1 k = true := by
  unfold sizeT1
  rw [allT_eq,allTs_eq,Bool.and_eq_true,Bool.and_eq_true,decide_eq_true_iff,List.all_eq_true,List.all_eq_true]
  exact ⟨fun h => ⟨⟨h.1.1,fun x hx => of_decide_eq_true (h.1.2 x hx)⟩,h.2⟩,fun h => ⟨⟨h.1.1,fun x hx => decide_eq_true (h.1.2 x hx)⟩,h.2⟩⟩
theorem size1_clean : ∀ t : Trm,sizeT1 t = true → sizeT1 (cleanT t) = true := by
  refine Trm.ind ?_
  intro t ih h
  obtain ⟨⟨⟨h1,h2⟩,h3⟩,h4⟩ := (size1_eq t).1 h
  rw [clean_tidy]
  refine (size1_eq _).2 ⟨⟨⟨?_,by show (t.kids.map cleanT).length ≤ _; rw [List.length_map]; exact h2⟩,fun x hx => ?_⟩,fun k hk => ?_⟩
  · show (if t.form = 2 ∨ t.form = 10 then t.levels else []).length ≤ _
    split
    · exact h1
    · simp
  · replace hx : x ∈ (if t.form = 2 ∨ t.form = 10 then t.levels else []) := hx
    split at hx
    · exact h3 x hx
    · cases hx
  · obtain ⟨y,hy,rfl⟩ := List.mem_map.1 hk
    exact ih y hy (h4 y hy)
theorem size1_sane : ∀ t : Trm,sizeT1 t = true → saneT t = true := by
  refine Trm.ind ?_
  intro t ih h
  obtain ⟨⟨⟨h1,h2⟩,_⟩,h4⟩ := (size1_eq t).1 h
  exact (sane_eq t).2 ⟨⟨by omega,by omega⟩,fun k hk => ih k hk (h4 k hk)⟩
theorem sb_size (args : List Lev) : ∀ (l : List LV) (out : Lev),(sbLoop args l out).1.v.length ≤ 64
  | [],out => by rw [sbLoop]; exact told_size _
  | v :: l,out => by
    rw [sbLoop]
    split
    · exact Nat.zero_le _
    · split
      · exact Nat.zero_le _
      · split
        · exact Nat.zero_le _
        · exact sb_size args l _
theorem subst_size (l : Lev) (args : List Lev) : (l.subst args).1.v.length ≤ 64 := by
  unfold Lev.subst
  split
  · split
    · exact sb_size _ _ _
    · exact Nat.zero_le _
  · exact Nat.zero_le _
theorem told_err (l : Lev) : l.told.2 = 0 ∨ l.told.2 = 13 := by
  unfold Lev.told
  split
  · exact .inl rfl
  · exact .inr rfl
theorem sb_err (args : List Lev) : ∀ (l : List LV) (out : Lev),(sbLoop args l out).2 = 0 ∨ (sbLoop args l out).2 = 13
  | [],out => by rw [sbLoop]; exact told_err _
  | v :: l,out => by
    rw [sbLoop]
    split
    · exact .inr rfl
    · split
      · exact .inr rfl
      · split
        · exact .inr rfl
        · exact sb_err args l _
theorem lvE_or (args : Sl SLev) (x : SLev) : lvE args x = 0 ∨ lvE args x = 13 := by
  unfold lvE Lev.subst
  split
  · split
    · exact sb_err _ _ _
    · exact .inr rfl
  · exact .inr rfl
theorem errs_bad (args : Sl SLev) : ∀ l : List SLev,errs args l 13 = 13
  | [] => rfl
  | x :: l => by
    rw [errs,if_neg (fun h => by have := h.2; omega)]
    exact errs_bad args l
theorem errs_val (args : Sl SLev) : ∀ l : List SLev,errs args l 0 = if l.any (fun x => !decide (lvE args x = 0)) = true then 13 else 0
  | [] => rfl
  | x :: l => by
    rw [errs,List.any_cons]
    rcases lvE_or args x with h | h
    · rw [if_neg (fun hh => hh.1 h),errs_val args l,decide_eq_true h,Bool.not_true,Bool.false_or]
    · rw [if_pos ⟨by omega,rfl⟩,h,errs_bad args l,decide_eq_false (by omega),Bool.not_false,Bool.true_or,if_pos rfl]
theorem gI_bad (args : Sl SLev) (t : Tm) : gI args t 13 = some (zeroT,13) := by
  unfold gI
  rw [if_pos (by omega)]
theorem run_bad (args : Sl SLev) (t : Tm) (L : Int) : (runN (gI args) t L 13).2.2 = 13 := by rw [runN_eq,gI_bad]
theorem runs_bad (args : Sl SLev) : ∀ (ks : List Tm) (L : Int),(runNs (gI args) ks L 13).2.2 = 13
  | [],L => by rw [runNs_nil]
  | k :: ks,L => by
    rw [runNs_cons]
    show (runNs (gI args) ks _ (runN (gI args) k L 13).2.2).2.2 = 13
    rw [run_bad]
    exact runs_bad args ks _
def Meets (r : Option Tm) (X : Tm × Int × Int) : Prop := (r = none ∧ X.2.2 = 13) ∨ ∃ u,r = some u ∧ X.2.2 = 0 ∧ X.1.abs = cleanT u.abs
theorem put_run (args : Sl SLev) : ∀ t : Tm,formedT t.abs = true → ∀ L,Meets (putM args t) (runN (gI args) t L 0) := by
  refine Tm.ind ?_
  intro t ih hf L
  rw [formed_tm,Bool.and_eq_true,List.all_eq_true] at hf
  obtain ⟨hp,hk⟩ := hf
  rw [putM_eq,runN_eq]
  by_cases h2 : t.form = 2 ∨ t.form = 10
  · have hkids : t.kids.el = [] := by
      have := part_len hp
      rw [abs_form,abs_kids,List.length_map] at this
      have e : kidsN t.form = 0 := by unfold kidsN; rw [if_pos (by omega)]
      rw [e] at this
      exact List.eq_nil_of_length_eq_zero (by omega)
    have hg : gI args t 0 = some (inT2 args t,errs args t.levels.el 0) := by
      unfold gI
      rw [if_neg (fun h => h rfl),if_neg (by omega)]
    rw [hg,decide_eq_true h2,Bool.true_and,hkids,putMs_nil,if_pos h2,errs_val]
    cases ha : t.levels.el.any (fun x => !decide (lvE args x = 0)) with
    | true => exact .inl ⟨rfl,rfl⟩
    | false =>
      refine .inr ⟨_,rfl,rfl,?_⟩
      rw [abs_eq (Tm.mk _ _ _ _ _ _ _ _ _),clean_eq,abs_eq]
      show Trm.mk t.form 0 false (if t.form = 10 then t.name else []) ((t.levels.el.map (lvR args)).map SLev.lev) [] = Trm.mk t.form (if t.form = 1 ∨ t.form = 11 then t.n else 0) (if t.form = 3 ∨ t.form = 4 ∨ t.form = 5 then t.hid else false) (if t.form = 10 then t.name else []) (if t.form = 2 ∨ t.form = 10 then (t.levels.el.map (lvR args)).map SLev.lev else []) []
      rw [if_neg (show ¬ (t.form = 1 ∨ t.form = 11) by omega),if_neg (show ¬ (t.form = 3 ∨ t.form = 4 ∨ t.form = 5) by omega),if_pos h2]
  · have hg : gI args t 0 = none := by
      unfold gI
      rw [if_neg (fun h => h rfl),if_pos (by omega)]
    rw [hg,decide_eq_false h2,Bool.false_and,if_neg h2]
    have key : ∀ ks : List Tm,(∀ k,k ∈ ks → k ∈ t.kids.el) → ∀ L,(putMs args ks = none ∧ (runNs (gI args) ks L 0).2.2 = 13) ∨ ∃ us,putMs args ks = some us ∧ (runNs (gI args) ks L 0).2.2 = 0 ∧ (runNs (gI args) ks L 0).1.map Tm.abs = us.map fun u => cleanT u.abs := by
      intro ks
      induction ks with
      | nil => intro _ L; rw [putMs_nil,runNs_nil]; exact .inr ⟨[],rfl,rfl,rfl⟩
      | cons k ks ihk =>
        intro hm L
        rw [putMs_cons,runNs_cons]
        rcases ih k (hm k (by simp)) (hk k (hm k (by simp))) L with ⟨e1,e2⟩ | ⟨u,e1,e2,e3⟩
        · rw [e1,e2]
          exact .inl ⟨rfl,runs_bad args ks _⟩
        · rw [e1,e2]
          rcases ihk (fun x hx => hm x (by simp [hx])) (runN (gI args) k L 0).2.1 with ⟨d1,d2⟩ | ⟨us,d1,d2,d3⟩
          · rw [d1]
            exact .inl ⟨rfl,d2⟩
          · rw [d1]
            refine .inr ⟨_,rfl,d2,?_⟩
            rw [List.map_cons,List.map_cons,d3,e3]
    rcases key t.kids.el (fun _ h => h) (L - 1) with ⟨e1,e2⟩ | ⟨us,e1,e2,e3⟩
    · rw [e1]
      exact .inl ⟨rfl,e2⟩
    · rw [e1]
      refine .inr ⟨_,rfl,e2,?_⟩
      show (bareT t (runNs (gI args) t.kids.el (L - 1) 0).1).abs = _
      rw [bare_abs,clean_tidy,e3]
      show tidyT t.abs _ = tidyT (Tm.mk t.form t.n t.hid t.name t.levels true false us []).abs _
      rw [abs_eq (Tm.mk _ _ _ _ _ _ _ _ _),abs_eq t]
      show tidyT _ _ = tidyT _ ((us.map Tm.abs).map cleanT)
      rw [List.map_map]
      rfl
theorem put_size1 (args : Sl SLev) : ∀ t : Tm,sizeT1 t.abs = true → ∀ u,putM args t = some u → sizeT1 u.abs = true := by
  refine Tm.ind ?_
  intro t ih hs u hu
  obtain ⟨⟨⟨h1,h2⟩,h3⟩,h4⟩ := (size1_eq _).1 hs
  rw [abs_levels,List.length_map] at h1
  rw [abs_kids,List.length_map] at h2
  rw [putM_eq] at hu
  have key : ∀ ks : List Tm,(∀ k,k ∈ ks → k ∈ t.kids.el) → ∀ us,putMs args ks = some us → ∀ u,u ∈ us → sizeT1 u.abs = true := by
    intro ks
    induction ks with
    | nil => intro _ us h u hu; rw [putMs_nil] at h; cases h; cases hu
    | cons k ks ihk =>
      intro hm us h u hu
      rw [putMs_cons] at h
      cases e1 : putM args k with
      | none => rw [e1] at h; cases h
      | some k' =>
        rw [e1] at h
        cases e2 : putMs args ks with
        | none => rw [e2] at h; cases h
        | some ks' =>
          rw [e2] at h
          cases h
          rcases List.mem_cons.1 hu with rfl | hu
          · exact ih k (hm k (by simp)) ((size1_tm hs).2.2 k (hm k (by simp))) _ e1
          · exact ihk (fun x hx => hm x (by simp [hx])) ks' e2 u hu
  cases hb : (decide (t.form = 2 ∨ t.form = 10) && t.levels.el.any (fun x => !decide (lvE args x = 0))) with
  | true => rw [hb] at hu; cases hu
  | false =>
    rw [hb] at hu
    cases e : putMs args t.kids.el with
    | none => rw [e] at hu; cases hu
    | some us =>
      rw [e] at hu
      cases hu
      have hlen := putMs_len args _ _ e
      refine (size1_eq _).2 ⟨⟨⟨?_,?_⟩,?_⟩,?_⟩
      · rw [abs_levels,List.length_map]
        show (if t.form = 2 ∨ t.form = 10 then Sl.app (t.levels.el.map (lvR args)) else t.levels).el.length ≤ _
        split
        · rw [app_el,List.length_map]; exact h1
        · exact h1
      · rw [abs_kids,List.length_map]
        show us.length ≤ _
        omega
      · rw [abs_levels]
        intro x hx
        obtain ⟨y,hy,rfl⟩ := List.mem_map.1 hx
        replace hy : y ∈ (if t.form = 2 ∨ t.form = 10 then Sl.app (t.levels.el.map (lvR args)) else t.levels).el := hy
        split at hy
        · rw [app_el] at hy
          obtain ⟨z,hz,rfl⟩ := List.mem_map.1 hy
          have : (lvR args z).lev.v.length ≤ 64 := subst_size z.lev _
          omega
        · exact h3 _ (by rw [abs_levels]; exact List.mem_map.2 ⟨y,hy,rfl⟩)
      · rw [abs_kids]
        intro k hk
        obtain ⟨y,hy,rfl⟩ := List.mem_map.1 hk
        exact key t.kids.el (fun _ h => h) us e y hy
def rLev (args : Sl SLev) (t : Tm) : Tm × Int := if checkT t.abs ≠ 0 then (zeroT,checkT t.abs) else match putM args t with
  | none => (zeroT,13)
  | some u => if checkT u.abs ≠ 0 then (zeroT,2) else (rcl u,0)
theorem lev_same (args : Sl SLev) (t : Tm) (hs : sizeT1 t.abs = true) : (tLev args t).2 = (rLev args t).2 ∧ (tLev args t).1.abs = (rLev args t).1.abs ∧ sizeT1 (tLev args t).1.abs = true := by
  have z : sizeT1 zeroT.abs = true := by decide
  by_cases hc : checkT t.abs = 0
  · have eR : rLev args t = match putM args t with
        | none => (zeroT,13)
        | some u => if checkT u.abs ≠ 0 then (zeroT,2) else (rcl u,0) := by unfold rLev; rw [if_neg (fun e => e hc)]
    have eT : tLev args t = if (runN (gI args) t 1099511627776 0).2.2 ≠ 0 then (zeroT,(runN (gI args) t 1099511627776 0).2.2) else if checkT (runN (gI args) t 1099511627776 0).1.abs ≠ 0 then (zeroT,2) else ((runN (gI args) t 1099511627776 0).1,0) := by unfold tLev; rw [if_neg (fun e : checkT t.abs ≠ 0 => e hc)]
    rcases put_run args t (good_parts hc).1 1099511627776 with ⟨e1,e2⟩ | ⟨u,e1,e2,e3⟩
    · rw [e1] at eR
      rw [e2,if_pos (by omega)] at eT
      rw [eR,eT]
      exact ⟨rfl,rfl,z⟩
    · have hu := put_size1 args t hs u e1
      rw [e1] at eR
      rw [e2,if_neg (fun e => e rfl),e3,clean_check] at eT
      replace eR : rLev args t = if checkT u.abs ≠ 0 then (zeroT,2) else (rcl u,0) := eR
      by_cases hy : checkT u.abs = 0
      · rw [if_neg (fun e => e hy)] at eR eT
        rw [eR,eT]
        exact ⟨rfl,by rw [rcl_abs]; exact e3,by show sizeT1 (runN (gI args) t 1099511627776 0).1.abs = true; rw [e3]; exact size1_clean _ hu⟩
      · rw [if_pos hy] at eR eT
        rw [eR,eT]
        exact ⟨rfl,rfl,z⟩
  · have eR : rLev args t = (zeroT,checkT t.abs) := by unfold rLev; rw [if_pos hc]
    have eT : tLev args t = (zeroT,checkT t.abs) := by unfold tLev; rw [if_pos hc]
    rw [eR,eT]
    exact ⟨rfl,rfl,z⟩
theorem rWhole (t : Tm) (hs : sizeT1 t.abs = true) (n : Nat) (h : Hps) (hg : Gd n h) : callFn (LX (cF Try.prog)) n h [(D.agg [.int .i64 (t).form,.int .i64 (t).n,.bool (t).hid,.str (t).name,slD 2 encL (t).levels,slD 6 encT (t).kids])] (cF Try.prog 61) = .ok (if checkT t.abs ≠ 0 then .tup [(D.agg [.int .i64 0,.int .i64 0,.bool false,.str [],.nils,.nils]),.int .i64 2] else .tup [(D.agg [.int .i64 (rcl t).form,.int .i64 (rcl t).n,.bool (rcl t).hid,.str (rcl t).name,slD 2 encL (rcl t).levels,slD 6 encT (rcl t).kids]),.int .i64 0]) n h := by
  have hG : ∀ m,n ≤ m → Gd m h := fun m hm => hg.mono hm
  have c1 : ∀ m h,Gd m h → callFn (LX (cF Try.prog)) m h [(D.agg [.int .i64 (t).form,.int .i64 (t).n,.bool (t).hid,.str (t).name,slD 2 encL (t).levels,slD 6 encT (t).kids])] (cF Try.prog 27) = .ok (.int .i64 (checkT t.abs)) m h := rCheck t (size1_sane _ hs)
  have c2 : ∀ m h,Gd m h → callFn (LX (cF Try.prog)) m h [(D.agg [.int .i64 (t).form,.int .i64 (t).n,.bool (t).hid,.str (t).name,slD 2 encL (t).levels,slD 6 encT (t).kids])] (cF Try.prog 30) = .ok (encT (rcl t)) m h := rClean t hs
  rw [encT_eq] at c2
  by_cases hc : checkT t.abs = 0
  · rw [if_neg (fun e => e hc)]
    rw [f61_eq]; unfold c61; rw [callFn_eq (by rfl)]
    simp (disch:=first|assumption|omega|(simp (disch:=first|assumption|omega) only [sB,reduceAdd,reduceLT,reduceLeDiff,reduceEqDiff,reduceMul,↓reduceIte,hG,gd_tm,gd_zt];done)|fail) only [sA,↓reduceIte,reduceLT,reduceEqDiff,reduceAdd,reduceLeDiff,c1,hc,c2,hG,gd_tm,gd_zt]
    exact fin_pair hg (flat2T _) (flatTA _) (flatTA _) (by omega)
  · rw [if_pos hc]
    rw [f61_eq]; unfold c61; rw [callFn_eq (by rfl)]
    simp (disch:=first|assumption|omega|(simp (disch:=first|assumption|omega) only [sB,reduceAdd,reduceLT,reduceLeDiff,reduceEqDiff,reduceMul,↓reduceIte,hG,gd_tm,gd_zt];done)|fail) only [sA,↓reduceIte,reduceLT,reduceEqDiff,reduceAdd,reduceLeDiff,c1,hc,hG,gd_tm,gd_zt]
    exact fin_pair hg rfl rfl (flatTA _) (by omega)
set_option maxHeartbeats 4000000 in
theorem rLevels (t : Tm) (hs : sizeT1 t.abs = true) (args : Sl SLev) (ha : args.el.length < 1000000000000) (hz : ∀ a,a ∈ args.el → sizeOk a) (n : Nat) (h : Hps) (hg : Gd n h) : callFn (LX (cF Try.prog)) n h [(D.agg [.int .i64 (t).form,.int .i64 (t).n,.bool (t).hid,.str (t).name,slD 2 encL (t).levels,slD 6 encT (t).kids]),slD 2 encL args] (cF Try.prog 54) = .ok (.tup [encT (rLev args t).1,.int .i64 (rLev args t).2]) n h := by
  have hG : ∀ m,n ≤ m → Gd m h := fun m hm => hg.mono hm
  have c1 : ∀ m h,Gd m h → callFn (LX (cF Try.prog)) m h [(D.agg [.int .i64 (t).form,.int .i64 (t).n,.bool (t).hid,.str (t).name,slD 2 encL (t).levels,slD 6 encT (t).kids])] (cF Try.prog 27) = .ok (.int .i64 (checkT t.abs)) m h := rCheck t (size1_sane _ hs)
  have c2 := rPut args ha hz t hs
  have hu := put_size1 args t hs
  unfold rLev
  by_cases hc : checkT t.abs = 0
  · rw [if_neg (fun e => e hc)]
    cases hp : putM args t with
    | none =>
      rw [hp] at c2
      replace c2 : ∀ n h,Gd n h → callFn (LX (cF Try.prog)) n h [(D.agg [.int .i64 (t).form,.int .i64 (t).n,.bool (t).hid,.str (t).name,slD 2 encL (t).levels,slD 6 encT (t).kids]),slD 2 encL args] (cF Try.prog 90) = .ok (.tup [(D.agg [.int .i64 0,.int .i64 0,.bool false,.str [],.nils,.nils]),.bool false]) n h := c2
      show _ = Rd.ok (.tup [encT zeroT,.int .i64 13]) n h
      rw [enc_zero]
      rw [f54_eq]; unfold c54; rw [callFn_eq (by rfl)]
      simp (disch:=first|assumption|omega|(simp (disch:=first|assumption|omega) only [sB,reduceAdd,reduceLT,reduceLeDiff,reduceEqDiff,reduceMul,↓reduceIte,hG,gd_tm,gd_zt];done)|fail) only [sA,↓reduceIte,reduceLT,reduceEqDiff,reduceAdd,reduceLeDiff,c1,hc,c2,hG,gd_tm,gd_zt]
      exact fin_tri hg rfl rfl (flatTA _) rfl (by omega) (by omega)
    | some u =>
      rw [hp] at c2
      have c3 : ∀ n h,Gd n h → callFn (LX (cF Try.prog)) n h [(D.agg [.int .i64 (t).form,.int .i64 (t).n,.bool (t).hid,.str (t).name,slD 2 encL (t).levels,slD 6 encT (t).kids]),slD 2 encL args] (cF Try.prog 90) = .ok (.tup [(D.agg [.int .i64 (u).form,.int .i64 (u).n,.bool (u).hid,.str (u).name,slD 2 encL (u).levels,slD 6 encT (u).kids]),.bool true]) n h := fun n h hg => by
        rw [c2 n h hg]; show Rd.ok (.tup [encT u,_]) n h = _; rw [encT_eq]
      have c4 := rWhole u (hu u hp)
      by_cases hy : checkT u.abs = 0
      · simp only [if_neg (fun e : checkT u.abs ≠ 0 => e hy)] at c4 ⊢
        rw [encT_eq]
        rw [f54_eq]; unfold c54; rw [callFn_eq (by rfl)]
        simp (disch:=first|assumption|omega|(simp (disch:=first|assumption|omega) only [sB,reduceAdd,reduceLT,reduceLeDiff,reduceEqDiff,reduceMul,↓reduceIte,hG,gd_tm,gd_zt];done)|fail) only [sA,↓reduceIte,reduceLT,reduceEqDiff,reduceAdd,reduceLeDiff,c1,hc,c3,c4,hG,gd_tm,gd_zt]
        exact fin_tri hg (flat2T _) (flatTA _) (flatTA _) (flatTA _) (by omega) (by omega)
      · simp only [if_pos hy] at c4 ⊢
        rw [enc_zero]
        rw [f54_eq]; unfold c54; rw [callFn_eq (by rfl)]
        simp (disch:=first|assumption|omega|(simp (disch:=first|assumption|omega) only [sB,reduceAdd,reduceLT,reduceLeDiff,reduceEqDiff,reduceMul,↓reduceIte,hG,gd_tm,gd_zt];done)|fail) only [sA,↓reduceIte,reduceLT,reduceEqDiff,reduceAdd,reduceLeDiff,c1,hc,c3,c4,hG,gd_tm,gd_zt]
        exact fin_tri hg rfl rfl (flatTA _) (flatTA _) (by omega) (by omega)
  · rw [if_pos hc,enc_zero]
    rw [f54_eq]; unfold c54; rw [callFn_eq (by rfl)]
    simp (disch:=first|assumption|omega|(simp (disch:=first|assumption|omega) only [sB,reduceAdd,reduceLT,reduceLeDiff,reduceEqDiff,reduceMul,↓reduceIte,hG,gd_tm,gd_zt];done)|fail) only [sA,↓reduceIte,reduceLT,reduceEqDiff,reduceAdd,reduceLeDiff,c1,hc,hG,gd_tm,gd_zt]
    exact fin_pair hg rfl rfl (flatTA _) (by omega)
theorem leve_arg {H : Type} (f : Nat) (x : DataW H) (h : Fit Try.prog f 65 x) : ∃ l : SLev,dVal Try.prog f 65 x = encL l ∧ (Rows.uptoBulk x ≤ 1048576 → l.vs.el.length ≤ 1048576) := by
  obtain ⟨g,a,b,rfl,rfl,h1,h2,h4⟩ := struct2 Try.underlying65 h
  obtain ⟨i,e1,_⟩ := int_arg Try.underlying3 h1
  obtain ⟨s,e2,_,n5⟩ := slice_arg (k := 2) (enc := encV) (R := fun _ _ => True) Try.underlying63 (by kernel_rfl) h2 (fun g' y _ hy => lvar_arg g' y hy)
  refine ⟨⟨i,s⟩,?_,fun hb => ?_⟩
  · rw [h4]
    show D.agg (cells (dVal _ g 3 a) ++ cells (dVal _ g 63 b)) = _
    rw [e1,e2,cells_int,cells_slD]
    rfl
  · rw [bulk_agg,bulk_cons,bulk_cons,bulk_nil] at hb
    show s.el.length ≤ _
    rcases n5 with ⟨_,h8,_⟩ | ⟨es,sp,rfl,h8,_⟩
    · rw [h8]; simp
    · have := h8.len
      rw [bulk_slice] at hb
      have := bulk_len es
      omega
theorem tmd_arg {H : Type} : ∀ (f : Nat) (x : DataW H),Fit Try.prog f 25 x → ∃ t : Tm,dVal Try.prog f 25 x = encT t ∧ saneT t.abs = true ∧ (Rows.uptoBulk x ≤ 1048576 → fewT t.abs = true ∧ sizeT1 t.abs = true) := by
  intro f
  induction f using Nat.strongRecOn with
  | _ f ih =>
  intro x h
  obtain ⟨g,a,b,c,d,e,k,rfl,rfl,h1,h2,h3,h4,h5,h6,h7⟩ := struct6 Try.underlying25 h
  obtain ⟨i,e1,_⟩ := int_arg Try.underlying3 h1
  obtain ⟨j,e2,_⟩ := int_arg Try.underlying3 h2
  obtain ⟨q,e3⟩ := bool_arg Try.underlying4 h3
  obtain ⟨l,rfl,e4,_⟩ := str_arg Try.underlying9 h4
  obtain ⟨ls,e5,m5,n5⟩ := slice_arg (k := 2) (enc := encL) (R := fun l y => Rows.uptoBulk y ≤ 1048576 → l.vs.el.length ≤ 1048576) Try.underlying22 (by kernel_rfl) h5 (fun g' y _ hy => leve_arg g' y hy)
  obtain ⟨s,e6,m6,m7⟩ := slice_arg (k := 6) (enc := encT) (R := fun t y => saneT t.abs = true ∧ (Rows.uptoBulk y ≤ 1048576 → fewT t.abs = true ∧ sizeT1 t.abs = true)) Try.underlying23 (by kernel_rfl) h6 (fun g' y hg hy => by
    obtain ⟨t,e,hs⟩ := ih g' (by omega) y hy
    exact ⟨t,e,hs⟩)
  refine ⟨.mk i j q (l.map UInt8.toNat) ls s.nil s.full s.el s.sp,?_,?_,?_⟩
  · rw [h7,encT_eq]
    show D.agg (cells (dVal _ g 3 a) ++ (cells (dVal _ g 3 b) ++ (cells (dVal _ g 4 c) ++ (cells (dVal _ g 9 _) ++ (cells (dVal _ g 22 e) ++ cells (dVal _ g 23 k)))))) = _
    rw [e1,e2,e3,e4,e5,e6,cells_int,cells_int,cells_bool,cells_str,cells_slD,cells_slD]
    rfl
  · refine (sane_eq _).2 ⟨?_,?_⟩
    · rw [abs_levels,abs_kids,List.length_map,List.length_map]
      show ls.el.length ≤ _ ∧ s.el.length ≤ _
      have : maxLen = 9223372036854775807 := rfl
      omega
    · rw [abs_kids]
      intro k hk
      obtain ⟨y,hy,rfl⟩ := List.mem_map.1 hk
      replace hy : y ∈ s.el := hy
      rcases m7 with ⟨_,h8,_⟩ | ⟨es,sp,_,h8,_⟩
      · rw [h8] at hy; cases hy
      · obtain ⟨_,_,h9⟩ := h8.mem y hy
        exact h9.1
  · intro hb
    rw [bulk_agg,bulk_cons,bulk_cons,bulk_cons,bulk_cons,bulk_cons,bulk_cons,bulk_nil] at hb
    have kl : ls.el.length ≤ 1048576 ∧ ∀ y,y ∈ ls.el → y.vs.el.length ≤ 1048576 := by
      rcases n5 with ⟨_,h8,_⟩ | ⟨es,sp,rfl,h8,_⟩
      · rw [h8]; exact ⟨by simp,fun y hy => (by cases hy)⟩
      · rw [bulk_slice] at hb
        refine ⟨by have := h8.len; have := bulk_len es; omega,fun y hy => ?_⟩
        obtain ⟨z,hz,h9⟩ := h8.mem y hy
        have := bulk_mem hz
        exact h9 (by omega)
    have kk : s.el.length ≤ 1048576 ∧ ∀ y,y ∈ s.el → fewT y.abs = true ∧ sizeT1 y.abs = true := by
      rcases m7 with ⟨_,h8,_⟩ | ⟨es,sp,rfl,h8,_⟩
      · rw [h8]; exact ⟨by simp,fun y hy => (by cases hy)⟩
      · rw [bulk_slice] at hb
        refine ⟨by have := h8.len; have := bulk_len es; omega,fun y hy => ?_⟩
        obtain ⟨z,hz,h9⟩ := h8.mem y hy
        have := bulk_mem hz
        exact h9.2 (by omega)
    refine ⟨(few_eq _).2 ⟨?_,?_⟩,(size1_eq _).2 ⟨⟨⟨?_,?_⟩,?_⟩,?_⟩⟩
    · rw [abs_levels,List.length_map]; show ls.el.length ≤ _; omega
    · rw [abs_kids]
      intro k hk
      obtain ⟨y,hy,rfl⟩ := List.mem_map.1 hk
      exact (kk.2 y hy).1
    · rw [abs_levels,List.length_map]; show ls.el.length ≤ _; omega
    · rw [abs_kids,List.length_map]; show s.el.length ≤ _; omega
    · rw [abs_levels]
      intro x hx
      obtain ⟨y,hy,rfl⟩ := List.mem_map.1 hx
      have := kl.2 y hy
      show y.vs.el.length ≤ _
      omega
    · rw [abs_kids]
      intro k hk
      obtain ⟨y,hy,rfl⟩ := List.mem_map.1 hk
      exact (kk.2 y hy).2
end Go.Proofs.Ytdijijblccmfbaa
set_option linter.unusedSimpArgs false
set_option linter.unusedVariables false
namespace Go.Proofs.Ytdijijblccmfbaa
open Go Go.ChangeShapes Go.WideShapes Go.ChangeAt Go.RowKit
open Nat (reduceAdd reduceLT reduceLeDiff reduceEqDiff reduceMul)

theorem aliveI : callFn (LX (cF Try.prog)) 3 [] [] ((cF Try.prog) 12) = .ok (.bool true) 3 [] := by
  have h : callFn (exec (tbT.look (cF Try.prog)) 1000) 3 [] [] (tbT.look (cF Try.prog) 12) = .ok (.bool true) 3 [] := by kernel_rfl
  rw [Tb.look_eq tbT_ok] at h
  exact callFn_LX _ h
theorem leak_no (h : Hps) : Ytdijijblccmfbaa.leak 0 h = false := by
  induction h with
  | nil => rfl
  | cons p t ih => rw [show p = (p.1,p.2) from rfl,leak_new (Nat.zero_le _)]; exact ih
theorem numW (n : Nat) (h : Hps) (hg : Gd n h) (a : Int) : callFn (LX (cF Try.prog)) n h [.int .i64 a] (cF Try.prog 19) = .ok (.int .i64 a) n h := by
  have hgn := hg n (Nat.le_refl _)
  rw [f19_eq]; unfold c19; rw [callFn_eq (by rfl)]
  simp (disch:=first|assumption|omega|(simp (disch:=first|assumption|omega) only [sB,reduceAdd,reduceLT,reduceLeDiff,reduceEqDiff,reduceMul,↓reduceIte];done)|fail) only [sA,↓reduceIte,reduceLT,reduceEqDiff,reduceAdd,reduceLeDiff]
set_option maxHeartbeats 8000000 in
theorem tlv_run (t : Tm) (args : Sl SLev) (st : saneT t.abs = true) (wt : fewT t.abs = true) (nt : sizeT1 t.abs = true) : ∃ n' h',callFn (LX (cF Try.prog)) 0 [] [(D.agg [.int .i64 (t).form,.int .i64 (t).n,.bool (t).hid,.str (t).name,slD 2 encL (t).levels,slD 6 encT (t).kids]),slD 2 encL args] ((cF Try.prog) 11) = .ok (.bool true) n' h' := by
  have F0 := fun m h => finishD_flat (n0 := 0) (n := m) (d := .bool true) rfl (leak_no h)
  have hG : ∀ m,1 ≤ m → Gd m [(0,(Ob.row 6 [.agg [.int .i64 (t).form,.int .i64 (t).n,.bool (t).hid,.str (t).name,slD 2 encL (t).levels,slD 6 encT (t).kids]]))] := fun m hm => by
    rw [gd_tm (by omega)]
    exact fun _ _ => good_nil
  rw [f11_eq]; unfold c11; rw [callFn_eq (by rfl)]
  obtain ⟨x,hx⟩ := bigE t st 7 [(0,(Ob.row 6 [.agg [.int .i64 (t).form,.int .i64 (t).n,.bool (t).hid,.str (t).name,slD 2 encL (t).levels,slD 6 encT (t).kids]]))] (hG 7 (by decide))
  cases x with
  | true =>
    simp (disch:=first|assumption|omega|(simp (disch:=first|assumption|omega) only [sB,reduceAdd,reduceLT,reduceLeDiff,reduceEqDiff,reduceMul,↓reduceIte];done)|fail) only [sA,↓reduceIte,reduceLT,reduceEqDiff,reduceAdd,reduceLeDiff,aliveI,hx,F0]
    exact ⟨_,_,rfl⟩
  | false =>
  by_cases hl : 50 < args.el.length
  · have hl1 : decide ((50 : Int) < ((args.el.length : Nat) : Int)) = true := decide_eq_true (by omega)
    simp (disch:=first|assumption|omega|(simp (disch:=first|assumption|omega) only [sB,reduceAdd,reduceLT,reduceLeDiff,reduceEqDiff,reduceMul,↓reduceIte];done)|fail) only [sA,↓reduceIte,reduceLT,reduceEqDiff,reduceAdd,reduceLeDiff,aliveI,hx,hl1,F0]
    exact ⟨_,_,rfl⟩
  have hl1 : decide ((50 : Int) < ((args.el.length : Nat) : Int)) = false := decide_eq_false (by omega)
  simp (disch:=first|assumption|omega|(simp (disch:=first|assumption|omega) only [sB,reduceAdd,reduceLT,reduceLeDiff,reduceEqDiff,reduceMul,↓reduceIte];done)|fail) only [sA,↓reduceIte,reduceLT,reduceEqDiff,reduceAdd,reduceLeDiff,aliveI,hx,hl1]
  generalize hr : LX (cF Try.prog) (.loop l11_0) _ _ _ = R
  obtain ⟨x,e2,n2,h2,rfl,rfl,p2,q⟩ := loop_up hr args.el.length
    (fun i e n' h' => h' = [(0,(Ob.row 6 [.agg [.int .i64 (t).form,.int .i64 (t).n,.bool (t).hid,.str (t).name,slD 2 encL (t).levels,slD 6 encT (t).kids]]))] ∧ 1 ≤ n' ∧ (∀ a,a ∈ args.el.take i → a.vs.el.length ≤ 100) ∧ get (po 1) e = slD 2 encL args ∧ get (po 2) e = .ptr 0 0 0 ∧ get (po 7) e = .int .i64 (i : Nat))
    (fun x e n' h' => h' = [(0,(Ob.row 6 [.agg [.int .i64 (t).form,.int .i64 (t).n,.bool (t).hid,.str (t).name,slD 2 encL (t).levels,slD 6 encT (t).kids]]))] ∧ 1 ≤ n' ∧ ((x = .exit 0 ∧ (∀ a,a ∈ args.el → a.vs.el.length ≤ 100) ∧ get (po 1) e = slD 2 encL args ∧ get (po 2) e = .ptr 0 0 0) ∨ (x = .ret ∧ get (po 4) e = .bool true)))
    (by
      rintro e n' h' ⟨rfl,p1,hz,g1,g2,g7⟩
      rw [List.take_length] at hz
      unfold l11_0
      simp (disch:=first|assumption|omega|(simp (disch:=first|assumption|omega) only [sB,reduceAdd,reduceLT,reduceLeDiff,reduceEqDiff,reduceMul,↓reduceIte];done)|fail) only [sA,↓reduceIte,reduceLT,reduceEqDiff,reduceAdd,reduceLeDiff,g1,g7]
      exact ⟨_,_,_,_,rfl,by simp,rfl,by omega,.inl ⟨rfl,hz,by simp +decide only [sG,g1],by simp +decide only [sG,g2]⟩⟩)
    (by
      rintro i e n' h' hi ⟨rfl,p1,hz,g1,g2,g7⟩
      unfold l11_0
      by_cases a1 : 100 < args.el[i].vs.el.length
      · have a2 : decide ((100 : Int) < ((args.el[i].vs.el.length : Nat) : Int)) = true := decide_eq_true (by omega)
        simp (disch:=first|assumption|omega|(simp (disch:=first|assumption|omega) only [sB,reduceAdd,reduceLT,reduceLeDiff,reduceEqDiff,reduceMul,↓reduceIte,hi];done)|fail) only [sA,↓reduceIte,reduceLT,reduceEqDiff,reduceAdd,reduceLeDiff,g1,g7,encL,a2,hi]
        exact ⟨_,_,_,_,rfl,.inr ⟨by simp,rfl,by omega,.inr ⟨rfl,by simp +decide only [sG]⟩⟩⟩
      · have a2 : decide ((100 : Int) < ((args.el[i].vs.el.length : Nat) : Int)) = false := decide_eq_false (by omega)
        simp (disch:=first|assumption|omega|(simp (disch:=first|assumption|omega) only [sB,reduceAdd,reduceLT,reduceLeDiff,reduceEqDiff,reduceMul,↓reduceIte,hi];done)|fail) only [sA,↓reduceIte,reduceLT,reduceEqDiff,reduceAdd,reduceLeDiff,g1,g7,encL,a2,hi]
        exact ⟨_,_,_,_,rfl,.inl ⟨rfl,rfl,by omega,fun a ha => by
          rw [List.take_succ_eq_append_getElem hi] at ha
          rcases List.mem_append.1 ha with ha | ha
          · exact hz a ha
          · rw [List.mem_singleton.1 ha]; omega,by simp +decide only [sG,g1],by simp +decide only [sG,g2],by simp +decide only [sG]⟩⟩)
    ⟨rfl,by omega,by simp,by simp +decide only [sG],by simp +decide only [sG],by simp (disch:=first|assumption|omega|(simp (disch:=first|assumption|omega) only [sB,reduceAdd,reduceLT,reduceLeDiff,reduceEqDiff,reduceMul,↓reduceIte];done)|fail) only [sA,↓reduceIte,reduceLT,reduceEqDiff,reduceAdd,reduceLeDiff]⟩
  rcases q with ⟨rfl,hz,g1,g2⟩ | ⟨rfl,g4⟩
  case inr =>
    simp (disch:=first|assumption|omega|(simp (disch:=first|assumption|omega) only [sB,reduceAdd,reduceLT,reduceLeDiff,reduceEqDiff,reduceMul,↓reduceIte];done)|fail) only [sA,↓reduceIte,reduceLT,reduceEqDiff,reduceAdd,reduceLeDiff,g4,F0]
    exact ⟨_,_,rfl⟩
  have hz1 : ∀ a,a ∈ args.el → sizeOk a := fun a ha => by have := hz a ha; unfold sizeOk; omega
  have c1 := tLevels t wt st args (by omega) hz1
  have c2 := rLevels t nt args (by omega) hz1
  obtain ⟨s1,s2,s3⟩ := lev_same args t nt
  have c3 := exT (tLev args t).1 s3 (rLev args t).1 s2
  rw [s1] at c1
  have cN : ∀ m h a,Gd m h → callFn (LX (cF Try.prog)) m h [.int .i64 a] (cF Try.prog 19) = .ok (.int .i64 a) m h := fun m h a hg => numW m h hg a
  generalize (tLev args t).1 = X at c1 c3
  generalize (rLev args t).1 = Y at c2 c3
  generalize (rLev args t).2 = E at c1 c2
  rw [encT_eq X] at c1
  rw [encT_eq Y] at c2
  have hE : decide (E = E) = true := decide_eq_true rfl
  simp (disch:=first|assumption|omega|(simp (disch:=first|assumption|omega) only [sB,reduceAdd,reduceLT,reduceLeDiff,reduceEqDiff,reduceMul,↓reduceIte,hG,gd_tm];done)|fail) only [sA,↓reduceIte,reduceLT,reduceEqDiff,reduceAdd,reduceLeDiff,g1,g2,c1,c2,c3,cN,hE,F0,hG,gd_tm]
  exact ⟨_,_,rfl⟩
theorem levs_arg {H : Type} (f : Nat) (x : DataW H) (h : Fit Try.prog f 22 x) : ∃ s : Sl SLev,dVal Try.prog f 22 x = slD 2 encL s := by
  obtain ⟨ls,e5,_,_⟩ := slice_arg (k := 2) (enc := encL) (R := fun _ _ => True) Try.underlying22 (by kernel_rfl) h (fun g' y _ hy => by
    obtain ⟨l,e⟩ := lev_arg g' y hy
    exact ⟨l,e,trivial⟩)
  exact ⟨ls,e5⟩

set_option maxRecDepth 100000 in
theorem tlv_lifted (os : Os) (started : os.Started) (H : Type) (enc : TypeId × Value → H) (F : Stop.Interp) :
    ReturnsInHanded {} Try.checked os 11 .any ((Rows.OpenSpec.upto Rows.termLevelsSpec).pre6 enc Try.prog Try.f11 Rows.termLevelsUptoRow.domain false) (((Rows.OpenSpec.upto Rows.termLevelsSpec).at F).post enc Try.prog Try.f11 false true false false) := by
  refine law_cond (K := noK) (C := Try.checked) (s := Rows.OpenSpec.upto Rows.termLevelsSpec) (k := Rows.uptoSmall) (tb := 4) rfl own started (by kernel_rfl) Try.func11
    (OpenSpec.witness (enc := enc) (C := Try.checked) (s := Rows.OpenSpec.upto Rows.termLevelsSpec) (k := Rows.uptoSmall) rfl false ⟨#[],#[.agg #[.int .i64 0,.int .i64 0,.bool false,.string ByteArray.empty,.slice none 0 0,.slice none 0 0],.slice none 0 0],[]⟩ 8 (by kernel_rfl) (by kernel_rfl) (by kernel_rfl)
      (x := ([.agg [.lit (.int .i64 0),.lit (.int .i64 0),.lit (.bool false),.lit (.string []),.nil,.nil],.nil],[],[])) (by kernel_rfl) rfl (by kernel_rfl))
    mixed laidOut rowed_maps full_slices (by kernel_rfl) rfl (by kernel_rfl) rfl rfl ?_ ?_
  · intro ds hl
    match ds,hl with
    | [_,_],_ => rfl
  · intro ds gs l hk hA
    have hA : ArgsAre Try.prog [25,22] ds l := hA
    have hb : Rows.uptoBulkAll (ds ++ gs) ≤ 1048576 := of_decide_eq_true hk
    obtain ⟨x,xs,f1,l1,rfl,rfl,h1,hA⟩ := args_cons hA
    obtain ⟨y,ys,f2,l2,rfl,rfl,h2,hA⟩ := args_cons hA
    obtain ⟨rfl,rfl⟩ := args_nil hA
    rw [List.cons_append,bulk_cons,List.cons_append,bulk_cons] at hb
    obtain ⟨a,e1,sa,wa⟩ := tmd_arg _ _ h1
    obtain ⟨b,e2⟩ := levs_arg _ _ h2
    rw [e1,e2,encT_eq]
    obtain ⟨w1,w2⟩ := wa (by omega)
    exact tlv_run a b sa w1 w2

theorem TermLevelsUpto_holds : Rows.TermLevelsUptoSaid :=
  OpenClaim.holds_of_cond 11 Try.f11 rfl rfl rfl rfl rfl rfl rfl ⟨rfl,rfl,rfl,rfl,rfl⟩ rfl rfl rfl rfl rfl (by kernel_rfl) Try.func11 (by kernel_rfl)
    (of_decide_eq_true (by kernel_rfl)) (by unfold Func.isWrapper; first | (rw [if_pos (by decide +kernel)]; kernel_rfl) | (rw [if_neg (by decide +kernel)]; exact ⟨rfl,rfl⟩))
    (fun os started H enc _ F => tlv_lifted os started H enc F)
end Go.Proofs.Ytdijijblccmfbaa
