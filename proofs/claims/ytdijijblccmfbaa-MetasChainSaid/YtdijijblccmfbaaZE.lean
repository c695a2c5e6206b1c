/- What is solved is put in along a chain of metas: raw.Map of a term without parts, put$1, put. No condition. -/
import Derived.Test.YtdijijblccmfbaaZD
set_option linter.unusedSimpArgs false
set_option linter.unusedVariables false
namespace Go.Proofs.Ytdijijblccmfbaa
open Go

theorem bare_meta (i : Int) : bareT (metaT i) [] = metaT i := rfl
theorem bare_con : bareT conT [] = conT := rfl
set_option maxHeartbeats 4000000 in
theorem pMap0 {n r : Nat} {h h2 : Hps} {L : Int} (hg : Gd n h) (hg2 : Gd n h2) (t : Tm) (hk : t.kids.el.length = 0) (ht : thin t) (hb : getO h r = .row 1 [.int .i64 L]) (hL : 1 ≤ L ∧ L ≤ 10000000) {c : D} :
    (∀ X : Tm,callX (cF Try.prog) (LX (cF Try.prog)) (n + 16) ((n + 1,(Ob.row 6 [.agg [.int .i64 0,.int .i64 0,.bool false,.str [],.nils,.nils]])) :: (n,(Ob.row 6 [.agg [.int .i64 (t).form,.int .i64 (t).n,.bool (t).hid,.str (t).name,slD 2 encL (t).levels,slD 6 encT (t).kids]])) :: setO h r (.row 1 [.int .i64 (L - 1)])) c [(D.agg [.int .i64 (t).form,.int .i64 (t).n,.bool (t).hid,.str (t).name,slD 2 encL (t).levels,slD 6 encT (t).kids]),.int .i64 0] = .ok (.tup [(D.agg [.int .i64 (X).form,.int .i64 (X).n,.bool (X).hid,.str (X).name,slD 2 encL (X).levels,slD 6 encT (X).kids]),.bool true]) (n + 16) ((n + 1,(Ob.row 6 [.agg [.int .i64 0,.int .i64 0,.bool false,.str [],.nils,.nils]])) :: (n,(Ob.row 6 [.agg [.int .i64 (t).form,.int .i64 (t).n,.bool (t).hid,.str (t).name,slD 2 encL (t).levels,slD 6 encT (t).kids]])) :: h2) →
      callFn (LX (cF Try.prog)) n h [(D.agg [.int .i64 (t).form,.int .i64 (t).n,.bool (t).hid,.str (t).name,slD 2 encL (t).levels,slD 6 encT (t).kids]),.int .i64 0,.ptr r 0 0,c] (cF Try.prog 91) = .ok (D.agg [.int .i64 (X).form,.int .i64 (X).n,.bool (X).hid,.str (X).name,slD 2 encL (X).levels,slD 6 encT (X).kids]) n h2) ∧
    (callX (cF Try.prog) (LX (cF Try.prog)) (n + 16) ((n + 1,(Ob.row 6 [.agg [.int .i64 0,.int .i64 0,.bool false,.str [],.nils,.nils]])) :: (n,(Ob.row 6 [.agg [.int .i64 (t).form,.int .i64 (t).n,.bool (t).hid,.str (t).name,slD 2 encL (t).levels,slD 6 encT (t).kids]])) :: setO h r (.row 1 [.int .i64 (L - 1)])) c [(D.agg [.int .i64 (t).form,.int .i64 (t).n,.bool (t).hid,.str (t).name,slD 2 encL (t).levels,slD 6 encT (t).kids]),.int .i64 0] = .ok (.tup [(D.agg [.int .i64 0,.int .i64 0,.bool false,.str [],.nils,.nils]),.bool false]) (n + 16) ((n + 1,(Ob.row 6 [.agg [.int .i64 0,.int .i64 0,.bool false,.str [],.nils,.nils]])) :: (n,(Ob.row 6 [.agg [.int .i64 (t).form,.int .i64 (t).n,.bool (t).hid,.str (t).name,slD 2 encL (t).levels,slD 6 encT (t).kids]])) :: h2) →
      callFn (LX (cF Try.prog)) n h [(D.agg [.int .i64 (t).form,.int .i64 (t).n,.bool (t).hid,.str (t).name,slD 2 encL (t).levels,slD 6 encT (t).kids]),.int .i64 0,.ptr r 0 0,c] (cF Try.prog 91) = .ok (encT (bareT t [])) n h2) := by
  have hgn := hg n (Nat.le_refl _)
  have hr : r < n := getO_low hgn (by rw [hb]; simp)
  have hsame : ∀ x,getO (setO h r x) r = x := fun x => getO_setO_same (by rw [hb]; simp)
  have h0 : ¬ L - 1 < 0 := by omega
  have HX : ∀ X,flat X = true → Hp n h2 (n + 2) ((n + 1,.row 6 [X]) :: (n,(Ob.row 6 [.agg [.int .i64 (t).form,.int .i64 (t).n,.bool (t).hid,.str (t).name,slD 2 encL (t).levels,slD 6 encT (t).kids]])) :: h2) := fun X fx => ((Hp.start hg2).box (r := n) (m := n + 1) (Nat.le_refl _) (by omega) (flatTA t)).box (r := n + 1) (m := n + 2) (by omega) (by omega) fx
  refine ⟨fun X hc => ?_,fun hc => ?_⟩
  · rw [f91_eq]; unfold c91; rw [callFn_eq (by rfl)]
    simp (disch:=first|assumption|omega|(simp (disch:=first|assumption|omega) only [sB,Nat.reduceAdd,Nat.reduceLT,Nat.reduceLeDiff,Nat.reduceEqDiff,Nat.reduceMul,↓reduceIte];done)|fail) only [sA,↓reduceIte,Nat.reduceLT,Nat.reduceEqDiff,Nat.reduceAdd,Nat.reduceLeDiff,hb,hsame,h0,hc]
    exact finish_flat (flatTA X) ((HX _ (flatTA X)).box (r := n + 20) (m := n + 26) (by omega) (by omega) (flatTA X))
  · have hG2 : ∀ m,n ≤ m → Gd m h2 := fun m hm => hg2.mono hm
    have c1 : ∀ m h,Gd m h → callFn (LX (cF Try.prog)) m h [(D.agg [.int .i64 (t).form,.int .i64 (t).n,.bool (t).hid,.str (t).name,slD 2 encL (t).levels,slD 6 encT (t).kids])] (cF Try.prog 118) = .ok (encT (bareT t [])) m h := fun m h hg => pBare m h hg t ht
    obtain ⟨bn,bh,bs,bl,hbt⟩ : ∃ bn bh bs bl,∀ ks,bareT t ks = .mk t.form bn bh bs bl true false ks [] := ⟨_,_,_,_,fun _ => rfl⟩
    have ebt : encT (bareT t []) = .agg [.int .i64 t.form,.int .i64 bn,.bool bh,.str bs,slD 2 encL bl,.nils] := by rw [hbt]; exact encT_eq _
    rw [ebt] at c1 ⊢
    have fb : flat (.agg [.int .i64 t.form,.int .i64 bn,.bool bh,.str bs,slD 2 encL bl,.nils]) = true := by rw [← ebt]; exact flatT _
    rw [f91_eq]; unfold c91; rw [callFn_eq (by rfl)]
    simp (disch:=first|assumption|omega|(simp (disch:=first|assumption|omega) only [sB,Nat.reduceAdd,Nat.reduceLT,Nat.reduceLeDiff,Nat.reduceEqDiff,Nat.reduceMul,↓reduceIte,gd_tm,gd_zt,hG2];done)|fail) only [sA,↓reduceIte,Nat.reduceLT,Nat.reduceEqDiff,Nat.reduceAdd,Nat.reduceLeDiff,hb,hsame,h0,hc,c1,hk,LX_loop,gd_tm,gd_zt,hG2]
    unfold l91_0
    simp (disch:=first|assumption|omega|(simp (disch:=first|assumption|omega) only [sB,Nat.reduceAdd,Nat.reduceLT,Nat.reduceLeDiff,Nat.reduceEqDiff,Nat.reduceMul,↓reduceIte];done)|fail) only [sA,↓reduceIte,Nat.reduceLT,Nat.reduceEqDiff,Nat.reduceAdd,Nat.reduceLeDiff,hk]
    exact finish_flat fb (((HX _ fb).box (r := n + 20) (m := n + 21) (k := 6) (d := (D.agg [.int .i64 0,.int .i64 0,.bool false,.str [],.nils,.nils])) (by omega) (by omega) rfl).box (r := n + 27) (m := n + 40) (by omega) (by omega) fb)
theorem tupF {X : D} {b : Bool} (hX : flat2 X = true) : flat (.tup [X,.bool b]) = true := by
  rw [flat_tup,List.all_cons,List.all_cons,List.all_nil,hX]; rfl
theorem flat2T (t : Tm) : flat2 (D.agg [.int .i64 (t).form,.int .i64 (t).n,.bool (t).hid,.str (t).name,slD 2 encL (t).levels,slD 6 encT (t).kids]) = true := by rw [← encT_eq]; exact elemT.flat t
set_option maxHeartbeats 8000000 in
theorem pP1 {n : Nat} {h : Hps} (hg : Gd n h) {s o : Nat} {xs : List Nat} {ws : Nat → Nat} {V : Nat → Tm} {a : Nat} (S : Sto h s o xs ws V a) (t : Tm) (d : Int) {qa qb r : Nat} {L : Int} (ba : getO h qa = .row 1 [.ptr s 0 0]) (bb : getO h qb = .row 1 [.ptr r 0 0]) (br : getO h r = .row 1 [.int .i64 L]) (hL : 0 ≤ L ∧ L ≤ 10000000) :
    (t.form ≠ 11 ∨ (∃ k : Nat,t.n = (k : Nat) ∧ k < xs.length ∧ a ≤ k) → callFn (LX (cF Try.prog)) n h [(D.agg [.int .i64 (t).form,.int .i64 (t).n,.bool (t).hid,.str (t).name,slD 2 encL (t).levels,slD 6 encT (t).kids]),.int .i64 d,.ptr qa 0 0,.ptr qb 0 0] (cF Try.prog 114) = .ok (.tup [(D.agg [.int .i64 0,.int .i64 0,.bool false,.str [],.nils,.nils]),.bool false]) n h) ∧
    (∀ k : Nat,t.form = 11 → t.n = (k : Nat) → k < xs.length → k < a → ∀ (X : Tm) (h3 : Hps),Gd n h3 →
      callFn (LX (cF Try.prog)) (n + 14293651161110) ((n + 1,(Ob.row 6 [.agg [.int .i64 0,.int .i64 0,.bool false,.str [],.nils,.nils]])) :: (n,(Ob.row 6 [.agg [.int .i64 (t).form,.int .i64 (t).n,.bool (t).hid,.str (t).name,slD 2 encL (t).levels,slD 6 encT (t).kids]])) :: setO h r (.row 1 [.int .i64 (L + 1)])) [.ptr s 0 0,(D.agg [.int .i64 (V k).form,.int .i64 (V k).n,.bool (V k).hid,.str (V k).name,slD 2 encL (V k).levels,slD 6 encT (V k).kids]),.ptr r 0 0] (cF Try.prog 88) = .ok (D.agg [.int .i64 (X).form,.int .i64 (X).n,.bool (X).hid,.str (X).name,slD 2 encL (X).levels,slD 6 encT (X).kids]) (n + 14293651161110) ((n + 1,(Ob.row 6 [.agg [.int .i64 0,.int .i64 0,.bool false,.str [],.nils,.nils]])) :: (n,(Ob.row 6 [.agg [.int .i64 (t).form,.int .i64 (t).n,.bool (t).hid,.str (t).name,slD 2 encL (t).levels,slD 6 encT (t).kids]])) :: h3) →
      callFn (LX (cF Try.prog)) n h [(D.agg [.int .i64 (t).form,.int .i64 (t).n,.bool (t).hid,.str (t).name,slD 2 encL (t).levels,slD 6 encT (t).kids]),.int .i64 d,.ptr qa 0 0,.ptr qb 0 0] (cF Try.prog 114) = .ok (.tup [(D.agg [.int .i64 (X).form,.int .i64 (X).n,.bool (X).hid,.str (X).name,slD 2 encL (X).levels,slD 6 encT (X).kids]),.bool true]) n h3) := by
  have hgn := hg n (Nat.le_refl _)
  have HX : ∀ {g : Hps} (X : D),Gd n g → flat X = true → Hp n g (n + 2) ((n + 1,.row 6 [X]) :: (n,(Ob.row 6 [.agg [.int .i64 (t).form,.int .i64 (t).n,.bool (t).hid,.str (t).name,slD 2 encL (t).levels,slD 6 encT (t).kids]])) :: g) := fun X hg fx => ((Hp.start hg).box (r := n) (m := n + 1) (Nat.le_refl _) (by omega) (flatTA t)).box (r := n + 1) (m := n + 2) (by omega) (by omega) fx
  have GX : ∀ m,n + 2 ≤ m → Gd m ((n + 1,(Ob.row 6 [.agg [.int .i64 0,.int .i64 0,.bool false,.str [],.nils,.nils]])) :: (n,(Ob.row 6 [.agg [.int .i64 (t).form,.int .i64 (t).n,.bool (t).hid,.str (t).name,slD 2 encL (t).levels,slD 6 encT (t).kids]])) :: h) := fun m hm k hk => (HX (D.agg [.int .i64 0,.int .i64 0,.bool false,.str [],.nils,.nils]) hg rfl).good k (by omega)
  have S2 : Sto ((n + 1,(Ob.row 6 [.agg [.int .i64 0,.int .i64 0,.bool false,.str [],.nils,.nils]])) :: (n,(Ob.row 6 [.agg [.int .i64 (t).form,.int .i64 (t).n,.bool (t).hid,.str (t).name,slD 2 encL (t).levels,slD 6 encT (t).kids]])) :: h) s o xs ws V a := (S.cons hg (Nat.le_refl _)).cons (n := n + 1) (by rw [gd_tm (by omega)]; exact hg.mono (by omega)) (by omega)
  have c1 : ∀ (k : Nat) (hk : k < xs.length),∀ m,n + 2 ≤ m → callFn (LX (cF Try.prog)) m ((n + 1,(Ob.row 6 [.agg [.int .i64 0,.int .i64 0,.bool false,.str [],.nils,.nils]])) :: (n,(Ob.row 6 [.agg [.int .i64 (t).form,.int .i64 (t).n,.bool (t).hid,.str (t).name,slD 2 encL (t).levels,slD 6 encT (t).kids]])) :: h) [.ptr s 0 0,.int .i64 (k : Nat)] (cF Try.prog 84) = .ok (.ptr xs[k] 0 0) m ((n + 1,(Ob.row 6 [.agg [.int .i64 0,.int .i64 0,.bool false,.str [],.nils,.nils]])) :: (n,(Ob.row 6 [.agg [.int .i64 (t).form,.int .i64 (t).n,.bool (t).hid,.str (t).name,slD 2 encL (t).levels,slD 6 encT (t).kids]])) :: h) := fun k hk m hm => pGet (GX m hm) S2 hk
  have hqa : qa < n := getO_low hgn (by rw [ba]; simp)
  have hqb : qb < n := getO_low hgn (by rw [bb]; simp)
  have hr : r < n := getO_low hgn (by rw [br]; simp)
  refine ⟨fun e => ?_,fun k h11 hk hkl hka X h3 hg3 hrec => ?_⟩
  · by_cases h11 : t.form = 11
    · obtain ⟨k,hk,hkl,hka⟩ := e.resolve_left (fun e => e h11)
      have hs := slot_open hg S hkl hka
      have c2 := c1 k hkl
      rw [h11,← hk] at c2
      have hx : xs[k] < n := getO_low hgn (by rw [hs]; simp)
      unfold slotD at hs
      rw [f114_eq]; unfold c114; rw [callFn_eq (by rfl)]
      simp (disch:=first|assumption|omega|(simp (disch:=first|assumption|omega) only [sB,Nat.reduceAdd,Nat.reduceLT,Nat.reduceLeDiff,Nat.reduceEqDiff,Nat.reduceMul,↓reduceIte];done)|fail) only [sA,↓reduceIte,Nat.reduceLT,Nat.reduceEqDiff,Nat.reduceAdd,Nat.reduceLeDiff,h11,ba,c2,ptr_nil,hs]
    · rw [f114_eq]; unfold c114; rw [callFn_eq (by rfl)]
      simp (disch:=first|assumption|omega|(simp (disch:=first|assumption|omega) only [sB,Nat.reduceAdd,Nat.reduceLT,Nat.reduceLeDiff,Nat.reduceEqDiff,Nat.reduceMul,↓reduceIte];done)|fail) only [sA,↓reduceIte,Nat.reduceLT,Nat.reduceEqDiff,Nat.reduceAdd,Nat.reduceLeDiff,h11]
  · have hs := slot_solved hg S hkl hka
    have c2 := c1 k hkl
    rw [h11,← hk] at c2
    have hx : xs[k] < n := getO_low hgn (by rw [hs]; simp)
    rw [h11] at hrec
    unfold slotD at hs
    rw [f114_eq]; unfold c114; rw [callFn_eq (by rfl)]
    have keep : ∀ {q kk : Nat} {es : List D} {X : Ob},getO h q = .row kk es → (∀ i,¬ (kk = 1 ∧ es = [.int .i64 i])) → getO (setO h r X) q = .row kk es := fun {q kk es X} hq hne => by
      rw [getO_setO _ _ _ _ (by rw [br]; simp),if_neg (fun e => by subst e; rw [hq] at br; cases br; exact hne L ⟨rfl,rfl⟩)]; exact hq
    have k1 := fun X => keep (X := X) ba (fun i e => by cases e.2)
    have k2 := fun X => keep (X := X) bb (fun i e => by cases e.2)
    have k3 := fun X => keep (X := X) hs (fun i e => by cases e.1)
    simp (disch:=first|assumption|omega|(simp (disch:=first|assumption|omega) only [sB,Nat.reduceAdd,Nat.reduceLT,Nat.reduceLeDiff,Nat.reduceEqDiff,Nat.reduceMul,↓reduceIte];done)|fail) only [sA,↓reduceIte,Nat.reduceLT,Nat.reduceEqDiff,Nat.reduceAdd,Nat.reduceLeDiff,h11,ba,bb,br,c2,ptr_nil,hs,sub_vl,k1,k2,k3,hrec]
    have f11 : flat (.agg [.int .i64 11,.int .i64 t.n,.bool t.hid,.str t.name,slD 2 encL t.levels,slD 6 encT t.kids]) = true := flatTA (.mk 11 t.n t.hid t.name t.levels t.kids.nil t.kids.full t.kids.el t.kids.sp)
    refine finish_flat (tupF (flat2T X)) ((((Hp.start hg3).box (r := n) (m := n + 1) (k := 6) (Nat.le_refl _) (by omega) f11).box (r := n + 1) (m := n + 2) (k := 6) (by omega) (by omega) (flatTA X)).mono ?_)
    omega
noncomputable def P4 (n s r : Nat) (t : Tm) (g : Hps) : Hps := (n + 3,(Ob.row 6 [.agg [.int .i64 0,.int .i64 0,.bool false,.str [],.nils,.nils]])) :: (n + 2,.row 1 [.ptr r 0 0]) :: (n + 1,(Ob.row 6 [.agg [.int .i64 (t).form,.int .i64 (t).n,.bool (t).hid,.str (t).name,slD 2 encL (t).levels,slD 6 encT (t).kids]])) :: (n,.row 1 [.ptr s 0 0]) :: g
noncomputable def P6 (n s r : Nat) (t : Tm) (g : Hps) : Hps := (n + 9,(Ob.row 6 [.agg [.int .i64 0,.int .i64 0,.bool false,.str [],.nils,.nils]])) :: (n + 8,(Ob.row 6 [.agg [.int .i64 (t).form,.int .i64 (t).n,.bool (t).hid,.str (t).name,slD 2 encL (t).levels,slD 6 encT (t).kids]])) :: P4 n s r t g
theorem P4_hp {n s r : Nat} (t : Tm) {g : Hps} (hg : Gd n g) (hs : s < n) (hr : r < n) : Hp n g (n + 4) (P4 n s r t g) :=
  ((((Hp.start hg).cons (r := n) (m := n + 1) (Nat.le_refl _) (by omega) (fun k hk => lowO_one (low_ptr (by omega)))).box (r := n + 1) (m := n + 2) (k := 6) (by omega) (by omega) (flatTA t)).cons (r := n + 2) (m := n + 3) (by omega) (by omega) (fun k hk => lowO_one (low_ptr (by omega)))).box (r := n + 3) (m := n + 4) (k := 6) (d := (D.agg [.int .i64 0,.int .i64 0,.bool false,.str [],.nils,.nils])) (by omega) (by omega) rfl
theorem P6_hp {n s r : Nat} (t : Tm) {g : Hps} (hg : Gd n g) (hs : s < n) (hr : r < n) : Hp n g (n + 10) (P6 n s r t g) :=
  ((P4_hp t hg hs hr).box (r := n + 8) (m := n + 9) (k := 6) (by omega) (by omega) (flatTA t)).box (r := n + 9) (m := n + 10) (k := 6) (d := (D.agg [.int .i64 0,.int .i64 0,.bool false,.str [],.nils,.nils])) (by omega) (by omega) rfl
theorem P6_get {n s r q : Nat} {t : Tm} {g : Hps} (hq : q < n) : getO (P6 n s r t g) q = getO g q := by
  unfold P6 P4
  rw [getO_tl (by omega),getO_tl (by omega),getO_tl (by omega),getO_tl (by omega),getO_tl (by omega),getO_tl (by omega)]
theorem P6_set {n s r q : Nat} {t : Tm} {g : Hps} {x : Ob} (hq : q < n) : setO (P6 n s r t g) q x = P6 n s r t (setO g q x) := by
  unfold P6 P4
  rw [setO_tl (by omega),setO_tl (by omega),setO_tl (by omega),setO_tl (by omega),setO_tl (by omega),setO_tl (by omega)]
theorem P4_get {n s r q : Nat} {t : Tm} {g : Hps} (hq : q < n) : getO (P4 n s r t g) q = getO g q := by
  unfold P4
  rw [getO_tl (by omega),getO_tl (by omega),getO_tl (by omega),getO_tl (by omega)]
theorem P4_set {n s r q : Nat} {t : Tm} {g : Hps} {x : Ob} (hq : q < n) : setO (P4 n s r t g) q x = P4 n s r t (setO g q x) := by
  unfold P4
  rw [setO_tl (by omega),setO_tl (by omega),setO_tl (by omega),setO_tl (by omega)]
theorem P6_0 {n s r : Nat} {t : Tm} {g : Hps} : getO (P6 n s r t g) n = .row 1 [.ptr s 0 0] ∧ getO (P6 n s r t g) (n + 2) = .row 1 [.ptr r 0 0] := by
  unfold P6 P4
  refine ⟨?_,?_⟩
  · rw [getO_tl (by omega),getO_tl (by omega),getO_tl (by omega),getO_tl (by omega),getO_tl (by omega),getO_hd]
  · rw [getO_tl (by omega),getO_tl (by omega),getO_tl (by omega),getO_hd]
theorem Sto.p6 {n s r o a : Nat} {t : Tm} {h : Hps} {xs : List Nat} {ws : Nat → Nat} {V : Nat → Tm} (S : Sto h s o xs ws V a) (hg : Gd n h) (hs : s < n) (hr : r < n) : Sto (P6 n s r t h) s o xs ws V a := by
  unfold P6 P4
  have g1 : Gd (n + 1) ((n,.row 1 [.ptr s 0 0]) :: h) := fun k hk => good_cons.2 ⟨by omega,lowO_one (low_ptr (by omega)),hg k (by omega)⟩
  have g2 : Gd (n + 2) ((n + 1,(Ob.row 6 [.agg [.int .i64 (t).form,.int .i64 (t).n,.bool (t).hid,.str (t).name,slD 2 encL (t).levels,slD 6 encT (t).kids]])) :: (n,.row 1 [.ptr s 0 0]) :: h) := by rw [gd_tm (by omega)]; exact g1.mono (by omega)
  have g3 : Gd (n + 3) ((n + 2,.row 1 [.ptr r 0 0]) :: (n + 1,(Ob.row 6 [.agg [.int .i64 (t).form,.int .i64 (t).n,.bool (t).hid,.str (t).name,slD 2 encL (t).levels,slD 6 encT (t).kids]])) :: (n,.row 1 [.ptr s 0 0]) :: h) := fun k hk => good_cons.2 ⟨by omega,lowO_one (low_ptr (by omega)),g2 k (by omega)⟩
  have g4 : Gd (n + 4) (P4 n s r t h) := fun k hk => (P4_hp t hg hs hr).good k hk
  exact (((((S.cons hg (Nat.le_refl _)).cons g1 (by omega)).cons g2 (by omega)).cons g3 (by omega)).cons g4 (by omega)).cons (n := n + 9) (by rw [gd_tm (by omega)]; exact g4.mono (by omega)) (by omega)
noncomputable def fP (n : Nat) : D := .fn 114 [] [.ptr n 0 0,.ptr (n + 2) 0 0]
set_option maxHeartbeats 4000000 in
theorem pPut0 {n s r : Nat} {h h2 : Hps} {L : Int} (hg : Gd n h) (hg2 : Gd n h2) (hs : s < n) (t : Tm) (hk : t.kids.el.length = 0) (ht : thin t) (hb : getO h r = .row 1 [.int .i64 L]) (hL : 1 ≤ L ∧ L ≤ 10000000) :
    (∀ X : Tm,callFn (LX (cF Try.prog)) (n + 24) (P6 n s r t (setO h r (.row 1 [.int .i64 (L - 1)]))) [(D.agg [.int .i64 (t).form,.int .i64 (t).n,.bool (t).hid,.str (t).name,slD 2 encL (t).levels,slD 6 encT (t).kids]),.int .i64 0,.ptr n 0 0,.ptr (n + 2) 0 0] (cF Try.prog 114) = .ok (.tup [(D.agg [.int .i64 (X).form,.int .i64 (X).n,.bool (X).hid,.str (X).name,slD 2 encL (X).levels,slD 6 encT (X).kids]),.bool true]) (n + 24) (P6 n s r t h2) →
      callFn (LX (cF Try.prog)) n h [.ptr s 0 0,(D.agg [.int .i64 (t).form,.int .i64 (t).n,.bool (t).hid,.str (t).name,slD 2 encL (t).levels,slD 6 encT (t).kids]),.ptr r 0 0] (cF Try.prog 88) = .ok (D.agg [.int .i64 (X).form,.int .i64 (X).n,.bool (X).hid,.str (X).name,slD 2 encL (X).levels,slD 6 encT (X).kids]) n h2) ∧
    (callFn (LX (cF Try.prog)) (n + 24) (P6 n s r t (setO h r (.row 1 [.int .i64 (L - 1)]))) [(D.agg [.int .i64 (t).form,.int .i64 (t).n,.bool (t).hid,.str (t).name,slD 2 encL (t).levels,slD 6 encT (t).kids]),.int .i64 0,.ptr n 0 0,.ptr (n + 2) 0 0] (cF Try.prog 114) = .ok (.tup [(D.agg [.int .i64 0,.int .i64 0,.bool false,.str [],.nils,.nils]),.bool false]) (n + 24) (P6 n s r t h2) →
      callFn (LX (cF Try.prog)) n h [.ptr s 0 0,(D.agg [.int .i64 (t).form,.int .i64 (t).n,.bool (t).hid,.str (t).name,slD 2 encL (t).levels,slD 6 encT (t).kids]),.ptr r 0 0] (cF Try.prog 88) = .ok (encT (bareT t [])) n h2) := by
  have hgn := hg n (Nat.le_refl _)
  have hr : r < n := getO_low hgn (by rw [hb]; simp)
  have g4 : ∀ {g : Hps},Gd n g → Gd (n + 8) (P4 n s r t g) := fun hg k hk => (P4_hp t hg hs hr).good k (by omega)
  have M := fun (c : D) => pMap0 (n := n + 8) (r := r) (h := P4 n s r t h) (h2 := P4 n s r t h2) (L := L) (g4 hg) (g4 hg2) t hk ht (by rw [P4_get hr]; exact hb) hL (c := c)
  rw [P4_set hr] at M
  have HH : ∀ X,flat X = true → Hp n h2 (n + 10) ((n + 3,.row 6 [X]) :: (n + 2,.row 1 [.ptr r 0 0]) :: (n + 1,(Ob.row 6 [.agg [.int .i64 (t).form,.int .i64 (t).n,.bool (t).hid,.str (t).name,slD 2 encL (t).levels,slD 6 encT (t).kids]])) :: (n,.row 1 [.ptr s 0 0]) :: h2) := fun X fX =>
    ((((Hp.start hg2).cons (r := n) (m := n + 1) (Nat.le_refl _) (by omega) (fun k hk => lowO_one (low_ptr (by omega)))).box (r := n + 1) (m := n + 2) (k := 6) (by omega) (by omega) (flatTA t)).cons (r := n + 2) (m := n + 3) (by omega) (by omega) (fun k hk => lowO_one (low_ptr (by omega)))).box (r := n + 3) (m := n + 10) (k := 6) (by omega) (by omega) fX
  unfold P6 at *
  refine ⟨fun X hc => ?_,fun hc => ?_⟩
  · have c1 := (M (fP n)).1 X (by unfold fP; rw [callX_fn]; exact hc)
    unfold fP P4 at c1
    rw [f88_eq]; unfold c88; rw [callFn_eq (by rfl)]
    simp (disch:=first|assumption|omega|(simp (disch:=first|assumption|omega) only [sB,Nat.reduceAdd,Nat.reduceLT,Nat.reduceLeDiff,Nat.reduceEqDiff,Nat.reduceMul,↓reduceIte];done)|fail) only [sA,↓reduceIte,Nat.reduceLT,Nat.reduceEqDiff,Nat.reduceAdd,Nat.reduceLeDiff,c1]
    exact finish_flat (flatTA _) (HH _ (flatTA _))
  · have c1 := (M (fP n)).2 (by unfold fP; rw [callX_fn]; exact hc)
    rw [encT_eq] at c1 ⊢
    unfold fP P4 at c1
    rw [f88_eq]; unfold c88; rw [callFn_eq (by rfl)]
    simp (disch:=first|assumption|omega|(simp (disch:=first|assumption|omega) only [sB,Nat.reduceAdd,Nat.reduceLT,Nat.reduceLeDiff,Nat.reduceEqDiff,Nat.reduceMul,↓reduceIte];done)|fail) only [sA,↓reduceIte,Nat.reduceLT,Nat.reduceEqDiff,Nat.reduceAdd,Nat.reduceLeDiff,c1]
    exact finish_flat (flatTA _) (HH _ (flatTA _))
theorem set_box {h : Hps} {n r : Nat} {x : Int} (hg : Gd n h) : Gd n (setO h r (.row 1 [.int .i64 x])) := fun k hk => good_set (hg k hk) (lowO_one (low_flat rfl))
theorem thin_meta (i : Int) : thin (metaT i) := fun e => by
  rcases e with e | e
  · exact absurd (show (11 : Int) = 2 from e) (by decide)
  · exact absurd (show (11 : Int) = 10 from e) (by decide)
theorem thin_con : thin conT := fun _ => ⟨by decide,fun x hx => by cases hx⟩
section
variable {s o a : Nat} {xs : List Nat} {ws : Nat → Nat} {V : Nat → Tm}
theorem pPutM {n r k : Nat} {h : Hps} {L : Int} (hg : Gd n h) (S : Sto h s o xs ws V a) (hk : k < xs.length) (hka : a ≤ k) (hb : getO h r = .row 1 [.int .i64 L]) (hL : 1 ≤ L ∧ L ≤ 10000000) :
    callFn (LX (cF Try.prog)) n h [.ptr s 0 0,(D.agg [.int .i64 (metaT ((k : Nat) : Int)).form,.int .i64 (metaT ((k : Nat) : Int)).n,.bool (metaT ((k : Nat) : Int)).hid,.str (metaT ((k : Nat) : Int)).name,slD 2 encL (metaT ((k : Nat) : Int)).levels,slD 6 encT (metaT ((k : Nat) : Int)).kids]),.ptr r 0 0] (cF Try.prog 88) = .ok (D.agg [.int .i64 (metaT ((k : Nat) : Int)).form,.int .i64 (metaT ((k : Nat) : Int)).n,.bool (metaT ((k : Nat) : Int)).hid,.str (metaT ((k : Nat) : Int)).name,slD 2 encL (metaT ((k : Nat) : Int)).levels,slD 6 encT (metaT ((k : Nat) : Int)).kids]) n (setO h r (.row 1 [.int .i64 (L - 1)])) := by
  have hgn := hg n (Nat.le_refl _)
  have hr : r < n := getO_low hgn (by rw [hb]; simp)
  obtain ⟨lD,s1,_⟩ := S.st
  have hsn : s < n := getO_low hgn (by rw [s1]; simp)
  have g1 := set_box (r := r) (x := L - 1) hg
  have S1 : Sto (setO h r (.row 1 [.int .i64 (L - 1)])) s o xs ws V a := S.set (.inl ⟨_,hb⟩)
  obtain ⟨b1,b2⟩ := P6_0 (n := n) (s := s) (r := r) (t := metaT ((k : Nat) : Int)) (g := setO h r (.row 1 [.int .i64 (L - 1)]))
  have e := (pPut0 hg g1 hsn (metaT ((k : Nat) : Int)) rfl (thin_meta _) hb hL).2 ((pP1 (fun q hq => (P6_hp _ g1 hsn hr).good q (by omega)) (S1.p6 g1 hsn hr) (metaT ((k : Nat) : Int)) 0 b1 b2 (by rw [P6_get hr]; exact getO_setO_same (by rw [hb]; simp)) (L := L - 1) (by omega)).1 (.inr ⟨k,rfl,hk,hka⟩))
  rw [bare_meta,encT_eq] at e
  exact e
theorem pPutC {n r : Nat} {h : Hps} {L : Int} (hg : Gd n h) (S : Sto h s o xs ws V a) (hb : getO h r = .row 1 [.int .i64 L]) (hL : 1 ≤ L ∧ L ≤ 10000000) :
    callFn (LX (cF Try.prog)) n h [.ptr s 0 0,(D.agg [.int .i64 (conT).form,.int .i64 (conT).n,.bool (conT).hid,.str (conT).name,slD 2 encL (conT).levels,slD 6 encT (conT).kids]),.ptr r 0 0] (cF Try.prog 88) = .ok (D.agg [.int .i64 (conT).form,.int .i64 (conT).n,.bool (conT).hid,.str (conT).name,slD 2 encL (conT).levels,slD 6 encT (conT).kids]) n (setO h r (.row 1 [.int .i64 (L - 1)])) := by
  have hgn := hg n (Nat.le_refl _)
  have hr : r < n := getO_low hgn (by rw [hb]; simp)
  obtain ⟨lD,s1,_⟩ := S.st
  have hsn : s < n := getO_low hgn (by rw [s1]; simp)
  have g1 := set_box (r := r) (x := L - 1) hg
  have S1 : Sto (setO h r (.row 1 [.int .i64 (L - 1)])) s o xs ws V a := S.set (.inl ⟨_,hb⟩)
  obtain ⟨b1,b2⟩ := P6_0 (n := n) (s := s) (r := r) (t := conT) (g := setO h r (.row 1 [.int .i64 (L - 1)]))
  have e := (pPut0 hg g1 hsn conT rfl thin_con hb hL).2 ((pP1 (fun q hq => (P6_hp _ g1 hsn hr).good q (by omega)) (S1.p6 g1 hsn hr) conT 0 b1 b2 (by rw [P6_get hr]; exact getO_setO_same (by rw [hb]; simp)) (L := L - 1) (by omega)).1 (.inl (by decide)))
  rw [bare_con,encT_eq] at e
  exact e
theorem pPut {U : Nat → Tm} (hU : ∀ i,i < a → U i = metaT ((i : Nat) : Int)) (ha : a ≤ xs.length) (hV : ∀ i,i < a → V i = U (i + 1)) {r : Nat}
    (hE : ∀ (n : Nat) (h : Hps) (L : Int),Gd n h → Sto h s o xs ws V a → getO h r = .row 1 [.int .i64 L] → 1 ≤ L ∧ L ≤ 10000000 → callFn (LX (cF Try.prog)) n h [.ptr s 0 0,(D.agg [.int .i64 (U a).form,.int .i64 (U a).n,.bool (U a).hid,.str (U a).name,slD 2 encL (U a).levels,slD 6 encT (U a).kids]),.ptr r 0 0] (cF Try.prog 88) = .ok (D.agg [.int .i64 (U a).form,.int .i64 (U a).n,.bool (U a).hid,.str (U a).name,slD 2 encL (U a).levels,slD 6 encT (U a).kids]) n (setO h r (.row 1 [.int .i64 (L - 1)]))) :
    ∀ (j k : Nat),k + j = a → ∀ (n : Nat) (h : Hps) (L : Int),Gd n h → Sto h s o xs ws V a → getO h r = .row 1 [.int .i64 L] → 1 ≤ L ∧ L ≤ 10000000 → callFn (LX (cF Try.prog)) n h [.ptr s 0 0,(D.agg [.int .i64 (U k).form,.int .i64 (U k).n,.bool (U k).hid,.str (U k).name,slD 2 encL (U k).levels,slD 6 encT (U k).kids]),.ptr r 0 0] (cF Try.prog 88) = .ok (D.agg [.int .i64 (U a).form,.int .i64 (U a).n,.bool (U a).hid,.str (U a).name,slD 2 encL (U a).levels,slD 6 encT (U a).kids]) n (setO h r (.row 1 [.int .i64 (L - 1)])) := by
  intro j
  induction j with
  | zero =>
    intro k hk n h L hg S hb hL
    obtain rfl : k = a := by omega
    exact hE n h L hg S hb hL
  | succ j ih =>
    intro k hk n h L hg S hb hL
    have hgn := hg n (Nat.le_refl _)
    have hr : r < n := getO_low hgn (by rw [hb]; simp)
    obtain ⟨lD,s1,_⟩ := S.st
    have hsn : s < n := getO_low hgn (by rw [s1]; simp)
    have g1 : ∀ x,Gd n (setO h r (.row 1 [.int .i64 x])) := fun x => set_box hg
    have S1 : ∀ x,Sto (setO h r (.row 1 [.int .i64 x])) s o xs ws V a := fun x => S.set (.inl ⟨_,hb⟩)
    have hbs : ∀ x,getO (setO h r (.row 1 [.int .i64 x])) r = .row 1 [.int .i64 x] := fun x => getO_setO_same (by rw [hb]; simp)
    rw [hU k (by omega)]
    obtain ⟨b1,b2⟩ := P6_0 (n := n) (s := s) (r := r) (t := metaT ((k : Nat) : Int)) (g := setO h r (.row 1 [.int .i64 (L - 1)]))
    have GP : ∀ x,Gd (n + 24) (P6 n s r (metaT ((k : Nat) : Int)) (setO h r (.row 1 [.int .i64 x]))) := fun x q hq => (P6_hp _ (g1 x) hsn hr).good q (by omega)
    have SP : ∀ x,Sto (P6 n s r (metaT ((k : Nat) : Int)) (setO h r (.row 1 [.int .i64 x]))) s o xs ws V a := fun x => (S1 x).p6 (g1 x) hsn hr
    -- the boxes of put$1 on them
    have GQ : ∀ x,Gd (n + 24 + 14293651161110) ((n + 24 + 1,(Ob.row 6 [.agg [.int .i64 0,.int .i64 0,.bool false,.str [],.nils,.nils]])) :: (n + 24,(Ob.row 6 [.agg [.int .i64 (metaT ((k : Nat) : Int)).form,.int .i64 (metaT ((k : Nat) : Int)).n,.bool (metaT ((k : Nat) : Int)).hid,.str (metaT ((k : Nat) : Int)).name,slD 2 encL (metaT ((k : Nat) : Int)).levels,slD 6 encT (metaT ((k : Nat) : Int)).kids]])) :: P6 n s r (metaT ((k : Nat) : Int)) (setO h r (.row 1 [.int .i64 x]))) := fun x => by
      rw [gd_zt (by omega),gd_tm (by omega)]; exact (GP x).mono (by omega)
    have SQ : ∀ x,Sto ((n + 24 + 1,(Ob.row 6 [.agg [.int .i64 0,.int .i64 0,.bool false,.str [],.nils,.nils]])) :: (n + 24,(Ob.row 6 [.agg [.int .i64 (metaT ((k : Nat) : Int)).form,.int .i64 (metaT ((k : Nat) : Int)).n,.bool (metaT ((k : Nat) : Int)).hid,.str (metaT ((k : Nat) : Int)).name,slD 2 encL (metaT ((k : Nat) : Int)).levels,slD 6 encT (metaT ((k : Nat) : Int)).kids]])) :: P6 n s r (metaT ((k : Nat) : Int)) (setO h r (.row 1 [.int .i64 x]))) s o xs ws V a := fun x => ((SP x).cons (GP x) (by omega)).cons (n := n + 24 + 1) (by rw [gd_tm (by omega)]; exact (GP x).mono (by omega)) (by omega)
    have R := ih (k + 1) (by omega) (n + 24 + 14293651161110) ((n + 24 + 1,(Ob.row 6 [.agg [.int .i64 0,.int .i64 0,.bool false,.str [],.nils,.nils]])) :: (n + 24,(Ob.row 6 [.agg [.int .i64 (metaT ((k : Nat) : Int)).form,.int .i64 (metaT ((k : Nat) : Int)).n,.bool (metaT ((k : Nat) : Int)).hid,.str (metaT ((k : Nat) : Int)).name,slD 2 encL (metaT ((k : Nat) : Int)).levels,slD 6 encT (metaT ((k : Nat) : Int)).kids]])) :: P6 n s r (metaT ((k : Nat) : Int)) (setO h r (.row 1 [.int .i64 L]))) L (GQ L) (SQ L) (by rw [getO_tl (by omega),getO_tl (by omega),P6_get hr]; exact hbs L) hL
    rw [setO_tl (by omega),setO_tl (by omega),P6_set hr,setO_set,← hV k (by omega)] at R
    refine (pPut0 hg (g1 (L - 1)) hsn (metaT ((k : Nat) : Int)) rfl (thin_meta _) hb hL).1 (U a) ?_
    refine (pP1 (GP (L - 1)) (SP (L - 1)) (metaT ((k : Nat) : Int)) 0 b1 b2 (by rw [P6_get hr]; exact hbs (L - 1)) (L := L - 1) (by omega)).2 k rfl rfl (by omega) (by omega) (U a) _ (GP (L - 1)) ?_
    rw [P6_set hr,setO_set,show L - 1 + 1 = L by omega]
    exact R
end
end Go.Proofs.Ytdijijblccmfbaa
