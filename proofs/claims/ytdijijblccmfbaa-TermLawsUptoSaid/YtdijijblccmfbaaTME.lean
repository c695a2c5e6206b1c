/- The program's Lift and Subst of terms. No condition but sizes. -/
import Derived.Test.YtdijijblccmfbaaTMC
import Derived.Test.YtdijijblccmfbaaTMD
import Derived.Test.YtdijijblccmfbaaTJ
set_option linter.unusedSimpArgs false
set_option linter.unusedVariables false
namespace Go.Proofs.Ytdijijblccmfbaa
open Go

theorem rlifts_len (b f : Int) : ∀ (ks : List Trm) (i : Nat) (a : Int),(rlifts b f i ks a).length = ks.length
  | [],_,_ => by rw [rlifts]
  | k :: t,i,a => by rw [rlifts,List.length_cons,List.length_cons,rlifts_len b f t]
theorem size_lift (b : Int) : ∀ t : Trm,∀ a,sizeT (rlift b t a) = sizeT t := by
  refine Trm.ind ?_
  intro t ih a
  obtain ⟨f,n,hd,nm,ls,ks⟩ := t
  have key : ∀ ks' : List Trm,(∀ k,k ∈ ks' → k ∈ ks) → ∀ i a,sizeTs (rlifts b f i ks' a) = sizeTs ks' := by
    intro ks'
    induction ks' with
    | nil => intro _ i a; rw [rlifts]
    | cons k t ihk => intro hk i a; rw [rlifts,sizeTs_cons,sizeTs_cons,ih k (hk k (by simp)),ihk (fun x hx => hk x (by simp [hx]))]
  rw [rlift]
  split
  · rw [sizeT_eq,sizeT_eq]; rfl
  · rw [sizeT_eq,sizeT_eq]
    show 1 + sizeTs (rlifts b f 0 ks a) = 1 + sizeTs ks
    rw [key ks (fun _ h => h)]
theorem high_lift (b : Int) : ∀ t : Trm,∀ a,highT (rlift b t a) = highT t := by
  refine Trm.ind ?_
  intro t ih a
  obtain ⟨f,n,hd,nm,ls,ks⟩ := t
  have key : ∀ ks' : List Trm,(∀ k,k ∈ ks' → k ∈ ks) → ∀ i a,highTs (rlifts b f i ks' a) = highTs ks' := by
    intro ks'
    induction ks' with
    | nil => intro _ i a; rw [rlifts]
    | cons k t ihk => intro hk i a; rw [rlifts,highTs_cons,highTs_cons,ih k (hk k (by simp)),ihk (fun x hx => hk x (by simp [hx]))]
  rw [rlift]
  split
  · rw [highT_eq,highT_eq]; rfl
  · rw [highT_eq,highT_eq]
    show 1 + highTs (rlifts b f 0 ks a) = 1 + highTs ks
    rw [key ks (fun _ h => h)]
theorem slim_mk (f n : Int) (hd : Bool) (nm : List Nat) (ls : List Lev) (ks : List Trm) : slimT (.mk f n hd nm ls ks) = true ↔ (ks.length ≤ 1000000 ∧ (f = 1 → 0 ≤ n ∧ n ≤ 100000000000) ∧ (f = 2 ∨ f = 10 → ls.length ≤ 1000000000 ∧ ∀ x,x ∈ ls → x.v.length ≤ 1000000000)) ∧ ∀ k,k ∈ ks → slimT k = true := by
  rw [slim_eq]
  show (decide (ks.length ≤ 1000000) && (!decide (f = 1) || decide (0 ≤ n ∧ n ≤ 100000000000)) && (!decide (f = 2 ∨ f = 10) || (decide (ls.length ≤ 1000000000) && ls.all fun x => decide (x.v.length ≤ 1000000000))) && ks.all slimT) = true ↔ _
  rw [Bool.and_eq_true,Bool.and_eq_true,Bool.and_eq_true,decide_eq_true_iff,List.all_eq_true,and_assoc (a := ks.length ≤ 1000000)]
  refine and_congr (and_congr Iff.rfl (and_congr ?_ ?_)) Iff.rfl
  · by_cases e : f = 1
    · rw [decide_eq_true e,Bool.not_true,Bool.false_or,decide_eq_true_iff]; exact ⟨fun h _ => h,fun h => h e⟩
    · rw [decide_eq_false e]; exact ⟨fun _ h => absurd h e,fun _ => rfl⟩
  · by_cases e : f = 2 ∨ f = 10
    · rw [decide_eq_true e,Bool.not_true,Bool.false_or,Bool.and_eq_true,decide_eq_true_iff,List.all_eq_true]
      exact ⟨fun h _ => ⟨h.1,fun x hx => of_decide_eq_true (h.2 x hx)⟩,fun h => ⟨(h e).1,fun x hx => decide_eq_true ((h e).2 x hx)⟩⟩
    · rw [decide_eq_false e]; exact ⟨fun _ h => absurd h e,fun _ => rfl⟩
theorem slim_lift {b : Int} (hb : 0 ≤ b ∧ b ≤ 10000000) : ∀ t : Trm,formedT t = true → slimT t = true → ∀ a,slimT (rlift b t a) = true := by
  refine Trm.ind ?_
  intro t ih hf hs a
  rw [formedT_eq,Bool.and_eq_true,List.all_eq_true] at hf
  obtain ⟨hp,hfk⟩ := hf
  obtain ⟨f,n,hd,nm,ls,ks⟩ := t
  obtain ⟨⟨h1,h2,h3⟩,h4⟩ := (slim_mk f n hd nm ls ks).1 hs
  rw [rlift]
  split
  · rename_i he
    have hn : 0 ≤ n ∧ n ≤ 1073741824 := by
      unfold partOk at hp
      rw [Bool.and_eq_true,if_pos (.inl he.1)] at hp
      exact of_decide_eq_true hp.2
    exact (slim_mk _ _ _ _ _ _).2 ⟨⟨h1,fun _ => by omega,h3⟩,h4⟩
  · refine (slim_mk _ _ _ _ _ _).2 ⟨⟨by rw [rlifts_len]; exact h1,h2,h3⟩,fun x hx => ?_⟩
    obtain ⟨k,a',hk,rfl⟩ := rlifts_mem b f ks 0 a x hx
    exact ih k hk (hfk k hk) (h4 k hk) a'
theorem flatP {X : D} {e : Int} (hX : flat2 X = true) : flat (.tup [X,.int .i64 e]) = true := by
  rw [flat_tup,List.all_cons,List.all_cons,List.all_nil,hX]; rfl
theorem fin_pair {n m : Nat} {h : Hps} {X Y Z : D} {e : Int} (hg : Gd n h) (hX : flat2 X = true) (hY : flat Y = true) (hZ : flat Z = true) (hm : n + 2 ≤ m) : finishD n m ((n + 1,.row 6 [Y]) :: (n,.row 6 [Z]) :: h) (.tup [X,.int .i64 e]) = .ok (.tup [X,.int .i64 e]) n h :=
  finish_flat (flatP hX) ((((Hp.start hg).box (r := n) (m := n + 1) (Nat.le_refl _) (by omega) hZ).box (r := n + 1) (m := n + 2) (by omega) (by omega) hY).mono hm)
theorem flat2T (t : Tm) : flat2 (D.agg [.int .i64 (t).form,.int .i64 (t).n,.bool (t).hid,.str (t).name,slD 2 encL (t).levels,slD 6 encT (t).kids]) = true := by rw [← encT_eq]; exact elemT.flat t
theorem good_parts {t : Trm} (h : checkT t = 0) : formedT t = true ∧ sizeT t ≤ 20000 ∧ highT t ≤ 500 := by
  have h1 := check_ok.1 h
  unfold goodT fitsT at h1
  rw [Bool.and_eq_true,decide_eq_true_iff] at h1
  exact ⟨h1.2,h1.1⟩
def LiftIs (t : Tm) (a b : Int) (t' : Tm) (e : Int) : Prop := (e = 0 ∧ checkT t.abs = 0 ∧ t'.abs = rlift b (cleanT t.abs) a ∧ checkT t'.abs = 0) ∨ (e ≠ 0 ∧ e = checkT t.abs ∧ t' = zeroT) ∨ (checkT t.abs = 0 ∧ e = 2 ∧ t' = zeroT)
set_option maxHeartbeats 4000000 in
theorem tLift (t : Tm) (hw : fewT t.abs = true) (hs : saneT t.abs = true) (a b : Int) (ha : 0 ≤ a ∧ a ≤ 1048576) (hb : 0 ≤ b ∧ b ≤ 1048576) (hab : 0 < a + b) : ∃ t' e,LiftIs t a b t' e ∧ saneT t'.abs = true ∧ ∀ n h,Gd n h → callFn (LX (cF Try.prog)) n h [(D.agg [.int .i64 (t).form,.int .i64 (t).n,.bool (t).hid,.str (t).name,slD 2 encL (t).levels,slD 6 encT (t).kids]),.int .i64 a,.int .i64 b] (cF Try.prog 15) = .ok (.tup [encT t',.int .i64 e]) n h := by
  have c1 : ∀ m h,Gd m h → callFn (LX (cF Try.prog)) m h [(D.agg [.int .i64 (t).form,.int .i64 (t).n,.bool (t).hid,.str (t).name,slD 2 encL (t).levels,slD 6 encT (t).kids])] (cF Try.prog 22) = .ok (.int .i64 (checkT t.abs)) m h := pCheck t hs
  by_cases hc : checkT t.abs = 0
  · obtain ⟨g1,g2,g3⟩ := good_parts hc
    have hl := formed_leaf _ g1
    have hsl := slim_of _ g1 hw
    have x0 : 0 ≤ (runM (gL a b) t 0 1099511627776).2 := by have := (runM_low (steadyL a b) t 0 1099511627776).1; omega
    have xv := lift_val a b t hl 0 1099511627776 x0
    have c2 : ∀ m h,Gd m h → callFn (LX (cF Try.prog)) m h [(D.agg [.int .i64 (t).form,.int .i64 (t).n,.bool (t).hid,.str (t).name,slD 2 encL (t).levels,slD 6 encT (t).kids]),.int .i64 a,.int .i64 b] (cF Try.prog 60) = .ok (encT (runM (gL a b) t 0 1099511627776).1) m h := fun m h hg => pLift m h hg t a b (by omega) (by omega) hab hsl (by omega) (by omega)
    generalize (runM (gL a b) t 0 1099511627776).1 = X at xv c2
    have f1 : formedT (cleanT t.abs) = true := by rw [clean_formed]; exact g1
    have xs : slimT X.abs = true := by rw [xv]; exact slim_lift (by omega) _ f1 (slim_of _ f1 (few_clean _ hw)) _
    have xz : sizeT X.abs = sizeT t.abs := by rw [xv,size_lift,clean_size]
    have xh : highT X.abs = highT t.abs := by rw [xv,high_lift,clean_high]
    have xl : leafT X.abs = true := by rw [xv]; exact rlift_leaf _ (formed_leaf _ f1) _
    have y0 : 0 ≤ (runM gC X 0 1099511627776).2 := by have := (runM_low steadyC X 0 1099511627776).1; omega
    have yv := copy_val X xl 0 1099511627776 y0
    have ys := sane_runC X xs 0 1099511627776
    have c3 : ∀ m h,Gd m h → callFn (LX (cF Try.prog)) m h [(D.agg [.int .i64 (X).form,.int .i64 (X).n,.bool (X).hid,.str (X).name,slD 2 encL (X).levels,slD 6 encT (X).kids])] (cF Try.prog 59) = .ok (encT (runM gC X 0 1099511627776).1) m h := fun m h hg => pCopy m h hg X xs (by omega) (by omega)
    generalize (runM gC X 0 1099511627776).1 = Y at yv ys c3
    have yv2 : Y.abs = rlift b (cleanT t.abs) a := by rw [yv,xv,clean_lift,clean_clean,Int.add_zero]
    have c4 : ∀ m h,Gd m h → callFn (LX (cF Try.prog)) m h [(D.agg [.int .i64 (Y).form,.int .i64 (Y).n,.bool (Y).hid,.str (Y).name,slD 2 encL (Y).levels,slD 6 encT (Y).kids]),.int .i64 0] (cF Try.prog 58) = .ok (if (0 : Int) < 0 ∨ checkT Y.abs ≠ 0 then .tup [(D.agg [.int .i64 0,.int .i64 0,.bool false,.str [],.nils,.nils]),.int .i64 2] else .tup [(D.agg [.int .i64 (Y).form,.int .i64 (Y).n,.bool (Y).hid,.str (Y).name,slD 2 encL (Y).levels,slD 6 encT (Y).kids]),.int .i64 0]) m h := fun m h hg => pTold Y ys 0 m h hg
    rw [encT_eq] at c2 c3
    by_cases hy : checkT Y.abs = 0
    · refine ⟨Y,0,.inl ⟨rfl,hc,yv2,hy⟩,ys,fun n h hg => ?_⟩
      have hG : ∀ m,n ≤ m → Gd m h := fun m hm => hg.mono hm
      rw [if_neg (by omega)] at c4
      rw [encT_eq]
      rw [f15_eq]; unfold c15; rw [callFn_eq (by rfl)]
      simp (disch:=first|assumption|omega|(simp (disch:=first|assumption|omega) only [sB,Nat.reduceAdd,Nat.reduceLT,Nat.reduceLeDiff,Nat.reduceEqDiff,Nat.reduceMul,↓reduceIte,hG,gd_tm,gd_zt];done)|fail) only [sA,↓reduceIte,Nat.reduceLT,Nat.reduceEqDiff,Nat.reduceAdd,Nat.reduceLeDiff,c1,hc,c2,c3,c4,hG,gd_tm,gd_zt]
      exact fin_pair hg (flat2T _) (flatTA _) (flatTA _) (by omega)
    · refine ⟨zeroT,2,.inr (.inr ⟨hc,rfl,rfl⟩),sane_zero,fun n h hg => ?_⟩
      have hG : ∀ m,n ≤ m → Gd m h := fun m hm => hg.mono hm
      rw [if_pos (.inr hy)] at c4
      rw [enc_zero]
      rw [f15_eq]; unfold c15; rw [callFn_eq (by rfl)]
      simp (disch:=first|assumption|omega|(simp (disch:=first|assumption|omega) only [sB,Nat.reduceAdd,Nat.reduceLT,Nat.reduceLeDiff,Nat.reduceEqDiff,Nat.reduceMul,↓reduceIte,hG,gd_tm,gd_zt];done)|fail) only [sA,↓reduceIte,Nat.reduceLT,Nat.reduceEqDiff,Nat.reduceAdd,Nat.reduceLeDiff,c1,hc,c2,c3,c4,hG,gd_tm,gd_zt]
      exact fin_pair hg rfl rfl (flatTA _) (by omega)
  · refine ⟨zeroT,checkT t.abs,.inr (.inl ⟨hc,rfl,rfl⟩),sane_zero,fun n h hg => ?_⟩
    have hG : ∀ m,n ≤ m → Gd m h := fun m hm => hg.mono hm
    rw [enc_zero]
    rw [f15_eq]; unfold c15; rw [callFn_eq (by rfl)]
    simp (disch:=first|assumption|omega|(simp (disch:=first|assumption|omega) only [sB,Nat.reduceAdd,Nat.reduceLT,Nat.reduceLeDiff,Nat.reduceEqDiff,Nat.reduceMul,↓reduceIte,hG,gd_tm,gd_zt];done)|fail) only [sA,↓reduceIte,Nat.reduceLT,Nat.reduceEqDiff,Nat.reduceAdd,Nat.reduceLeDiff,c1,hc,hG,gd_tm,gd_zt]
    exact fin_pair hg rfl rfl (flatTA _) (by omega)
theorem aidx0 {m : Nat} {g : Hps} {a b c d e f a2 b2 c2 d2 e2 f2 : D} : aidxD m g true 6 2 (.agg [a,b,c,d,e,f,a2,b2,c2,d2,e2,f2]) 0 = .ok (.agg [a,b,c,d,e,f]) m g := eqOf rfl
theorem aidx1 {m : Nat} {g : Hps} {a b c d e f a2 b2 c2 d2 e2 f2 : D} : aidxD m g true 6 2 (.agg [a,b,c,d,e,f,a2,b2,c2,d2,e2,f2]) 1 = .ok (.agg [a2,b2,c2,d2,e2,f2]) m g := eqOf rfl
theorem z01 : (0 : Int) + 1 = 1 := eqOf rfl
theorem z12 : (1 : Int) + 1 = 2 := eqOf rfl
def SubIs (t : Tm) (p : Int) (s t' : Tm) (e : Int) : Prop := (e = 0 ∧ checkT t.abs = 0 ∧ checkT s.abs = 0 ∧ t'.abs = rsub p (cleanT s.abs) (cleanT t.abs) 0 ∧ checkT t'.abs = 0) ∨ (e ≠ 0 ∧ t' = zeroT ∧ (e = checkT t.abs ∨ checkT t.abs = 0 ∧ e = checkT s.abs)) ∨ (checkT t.abs = 0 ∧ checkT s.abs = 0 ∧ e = 2 ∧ t' = zeroT)
set_option maxHeartbeats 4000000 in
theorem tSubst (t s : Tm) (hw : fewT t.abs = true) (hs : saneT t.abs = true) (hw2 : fewT s.abs = true) (hs2 : saneT s.abs = true) (p : Int) (hp : 0 ≤ p ∧ p ≤ 1099511627776) : ∃ t' e,SubIs t p s t' e ∧ saneT t'.abs = true ∧ ∀ n h,Gd n h → callFn (LX (cF Try.prog)) n h [(D.agg [.int .i64 (t).form,.int .i64 (t).n,.bool (t).hid,.str (t).name,slD 2 encL (t).levels,slD 6 encT (t).kids]),.int .i64 p,(D.agg [.int .i64 (s).form,.int .i64 (s).n,.bool (s).hid,.str (s).name,slD 2 encL (s).levels,slD 6 encT (s).kids])] (cF Try.prog 43) = .ok (.tup [encT t',.int .i64 e]) n h := by
  have c1 : ∀ m h,Gd m h → callFn (LX (cF Try.prog)) m h [(D.agg [.int .i64 (t).form,.int .i64 (t).n,.bool (t).hid,.str (t).name,slD 2 encL (t).levels,slD 6 encT (t).kids])] (cF Try.prog 22) = .ok (.int .i64 (checkT t.abs)) m h := pCheck t hs
  have c2 : ∀ m h,Gd m h → callFn (LX (cF Try.prog)) m h [(D.agg [.int .i64 (s).form,.int .i64 (s).n,.bool (s).hid,.str (s).name,slD 2 encL (s).levels,slD 6 encT (s).kids])] (cF Try.prog 22) = .ok (.int .i64 (checkT s.abs)) m h := pCheck s hs2
  by_cases hc : checkT t.abs = 0
  · by_cases hc2 : checkT s.abs = 0
    · have hmin : min p 1099511627776 = p := by omega
      have hp0 : ¬ p < 0 := by omega
      obtain ⟨g1,g2,g3⟩ := good_parts hc
      obtain ⟨g4,g5,g6⟩ := good_parts hc2
      have hsl := slim_of _ g1 hw
      have hsl2 := slim_of _ g4 hw2
      have cS : ∀ n h,Gd n h → ∀ r,r < n → getO h r = .row 1 [.int .i64 40002] → ∃ h',callFn (LX (cF Try.prog)) n h [(D.agg [.int .i64 (t).form,.int .i64 (t).n,.bool (t).hid,.str (t).name,slD 2 encL (t).levels,slD 6 encT (t).kids]),.int .i64 p,(D.agg [.int .i64 (s).form,.int .i64 (s).n,.bool (s).hid,.str (s).name,slD 2 encL (s).levels,slD 6 encT (s).kids]),.ptr r 0 0] (cF Try.prog 81) = .ok (encT (runM (gS p s) t 0 40002).1) n h' ∧ Cnt r (runM (gS p s) t 0 40002).2 h h' := fun n h hg r hr hb => pSubst n h hg t s p 40002 hr hb (by omega) (by omega) hsl (by omega) (by omega) hsl2 (by omega) (by omega) (by omega)
      have xv := sub_val p s (formed_leaf _ g4) t (formed_leaf _ g1) 0 40002
      have xs := sane_runS p s hsl2 t hsl 0 40002
      generalize runM (gS p s) t 0 40002 = X at cS xv xs
      obtain ⟨X,L⟩ := X
      replace cS : ∀ n h,Gd n h → ∀ r,r < n → getO h r = .row 1 [.int .i64 40002] → ∃ h',callFn (LX (cF Try.prog)) n h [(D.agg [.int .i64 (t).form,.int .i64 (t).n,.bool (t).hid,.str (t).name,slD 2 encL (t).levels,slD 6 encT (t).kids]),.int .i64 p,(D.agg [.int .i64 (s).form,.int .i64 (s).n,.bool (s).hid,.str (s).name,slD 2 encL (s).levels,slD 6 encT (s).kids]),.ptr r 0 0] (cF Try.prog 81) = .ok (encT X) n h' ∧ Cnt r L h h' := cS
      replace xv : 0 ≤ L → X.abs = rsub p (cleanT s.abs) (cleanT t.abs) 0 := xv
      replace xs : saneT X.abs = true := xs
      have c4 : ∀ m h,Gd m h → callFn (LX (cF Try.prog)) m h [(D.agg [.int .i64 (X).form,.int .i64 (X).n,.bool (X).hid,.str (X).name,slD 2 encL (X).levels,slD 6 encT (X).kids]),.int .i64 L] (cF Try.prog 58) = .ok (if L < 0 ∨ checkT X.abs ≠ 0 then .tup [(D.agg [.int .i64 0,.int .i64 0,.bool false,.str [],.nils,.nils]),.int .i64 2] else .tup [(D.agg [.int .i64 (X).form,.int .i64 (X).n,.bool (X).hid,.str (X).name,slD 2 encL (X).levels,slD 6 encT (X).kids]),.int .i64 0]) m h := fun m h hg => pTold X xs L m h hg
      have key : ∀ (Y : Tm) (e : Int),(∀ m h,Gd m h → callFn (LX (cF Try.prog)) m h [(D.agg [.int .i64 (X).form,.int .i64 (X).n,.bool (X).hid,.str (X).name,slD 2 encL (X).levels,slD 6 encT (X).kids]),.int .i64 L] (cF Try.prog 58) = .ok (.tup [(D.agg [.int .i64 (Y).form,.int .i64 (Y).n,.bool (Y).hid,.str (Y).name,slD 2 encL (Y).levels,slD 6 encT (Y).kids]),.int .i64 e]) m h) → ∀ n h,Gd n h → callFn (LX (cF Try.prog)) n h [(D.agg [.int .i64 (t).form,.int .i64 (t).n,.bool (t).hid,.str (t).name,slD 2 encL (t).levels,slD 6 encT (t).kids]),.int .i64 p,(D.agg [.int .i64 (s).form,.int .i64 (s).n,.bool (s).hid,.str (s).name,slD 2 encL (s).levels,slD 6 encT (s).kids])] (cF Try.prog 43) = .ok (.tup [encT Y,.int .i64 e]) n h := by
        clear c4
        intro Y e c4 n h hg
        have hG : ∀ m,n ≤ m → Gd m h := fun m hm => hg.mono hm
        have H : Hp n h (n + 36) ((n + 35,.row 1 [.int .i64 40002]) :: (n + 22,(Ob.row 6 [.agg [.int .i64 (s).form,.int .i64 (s).n,.bool (s).hid,.str (s).name,slD 2 encL (s).levels,slD 6 encT (s).kids]])) :: (n + 10,(Ob.row 6 [.agg [.int .i64 (t).form,.int .i64 (t).n,.bool (t).hid,.str (t).name,slD 2 encL (t).levels,slD 6 encT (t).kids]])) :: (n + 2,(Ob.row 6 [.agg [.int .i64 0,.int .i64 0,.bool false,.str [],.nils,.nils]])) :: (n + 1,(Ob.row 6 [.agg [.int .i64 (s).form,.int .i64 (s).n,.bool (s).hid,.str (s).name,slD 2 encL (s).levels,slD 6 encT (s).kids]])) :: (n,(Ob.row 6 [.agg [.int .i64 (t).form,.int .i64 (t).n,.bool (t).hid,.str (t).name,slD 2 encL (t).levels,slD 6 encT (t).kids]])) :: h) := ((((((Hp.start hg).box (r := n) (m := n + 1) (Nat.le_refl _) (by omega) (flatTA t)).box (r := n + 1) (m := n + 2) (by omega) (by omega) (flatTA s)).box (r := n + 2) (m := n + 3) (k := 6) (d := (D.agg [.int .i64 0,.int .i64 0,.bool false,.str [],.nils,.nils])) (by omega) (by omega) rfl).box (r := n + 10) (m := n + 11) (by omega) (by omega) (flatTA t)).box (r := n + 22) (m := n + 23) (by omega) (by omega) (flatTA s)).box (r := n + 35) (m := n + 36) (by omega) (by omega) rfl
        obtain ⟨h2,e2,U2⟩ := cS (n + 42) _ (fun k hk => H.good k (by omega)) (n + 35) (by omega) getO_hd
        have w1 : getO h2 (n + 2) = (Ob.row 6 [.agg [.int .i64 0,.int .i64 0,.bool false,.str [],.nils,.nils]]) := by rw [U2.get (by omega),getO_tl (by omega),getO_tl (by omega),getO_tl (by omega),getO_hd]
        have w2 : ∀ X,getO (setO h2 (n + 2) X) (n + 2) = X := fun X => getO_setO_same (by rw [w1]; simp)
        have w3 : getO h2 (n + 35) = .row 1 [.int .i64 L] := U2.1
        have H2 := Cnt.own H U2 (by omega) (by omega)
        have hG2 : ∀ m,n + 36 ≤ m → Gd m h2 := fun m hm k hk => H2.good k (by omega)
        rw [encT_eq] at e2 ⊢
        rw [f43_eq]; unfold c43; rw [callFn_eq (by rfl)]
        simp (disch:=first|assumption|omega|(simp (disch:=first|assumption|omega) only [sB,Nat.reduceAdd,Nat.reduceLT,Nat.reduceLeDiff,Nat.reduceEqDiff,Nat.reduceMul,↓reduceIte,hG,gd_tm,gd_zt,hG2];done)|fail) only [sA,↓reduceIte,Nat.reduceLT,Nat.reduceEqDiff,Nat.reduceAdd,Nat.reduceLeDiff,c1,hc,c2,hc2,LX_loop,aidx0,aidx1,z01,z12,hmin,hp0,e2,w1,w2,w3,c4,l43_0,hG,gd_tm,gd_zt,hG2]
        exact finish_flat (flatP (flat2T _)) (((H2.set (r := n + 2) (by omega) (fun k hk => lowO_one (low_flat (flatTA _)))).box (r := n + 43) (m := n + 44) (by omega) (by omega) (flatTA _)).mono (by omega))
      by_cases hy : L < 0 ∨ checkT X.abs ≠ 0
      · simp only [if_pos hy,← enc_zero,encT_eq zeroT] at c4
        exact ⟨zeroT,2,.inr (.inr ⟨hc,hc2,rfl,rfl⟩),sane_zero,key zeroT 2 c4⟩
      · simp only [if_neg hy] at c4
        exact ⟨X,0,.inl ⟨rfl,hc,hc2,xv (by omega),by omega⟩,xs,key X 0 c4⟩
    · refine ⟨zeroT,checkT s.abs,.inr (.inl ⟨hc2,rfl,.inr ⟨hc,rfl⟩⟩),sane_zero,fun n h hg => ?_⟩
      have hG : ∀ m,n ≤ m → Gd m h := fun m hm => hg.mono hm
      rw [enc_zero]
      rw [f43_eq]; unfold c43; rw [callFn_eq (by rfl)]
      simp (disch:=first|assumption|omega|(simp (disch:=first|assumption|omega) only [sB,Nat.reduceAdd,Nat.reduceLT,Nat.reduceLeDiff,Nat.reduceEqDiff,Nat.reduceMul,↓reduceIte,hG,gd_tm,gd_zt];done)|fail) only [sA,↓reduceIte,Nat.reduceLT,Nat.reduceEqDiff,Nat.reduceAdd,Nat.reduceLeDiff,c1,hc,c2,hc2,LX_loop,aidx0,aidx1,z01,l43_0,hG,gd_tm,gd_zt]
      exact finish_flat (flatP rfl) (((((((Hp.start hg).box (r := n) (m := n + 1) (Nat.le_refl _) (by omega) (flatTA t)).box (r := n + 1) (m := n + 2) (by omega) (by omega) (flatTA s)).box (r := n + 2) (m := n + 3) (k := 6) (d := (D.agg [.int .i64 0,.int .i64 0,.bool false,.str [],.nils,.nils])) (by omega) (by omega) rfl).box (r := n + 10) (m := n + 11) (by omega) (by omega) (flatTA t)).box (r := n + 22) (m := n + 23) (by omega) (by omega) (flatTA s)).mono (by omega))
  · refine ⟨zeroT,checkT t.abs,.inr (.inl ⟨hc,rfl,.inl rfl⟩),sane_zero,fun n h hg => ?_⟩
    have hG : ∀ m,n ≤ m → Gd m h := fun m hm => hg.mono hm
    rw [enc_zero]
    rw [f43_eq]; unfold c43; rw [callFn_eq (by rfl)]
    simp (disch:=first|assumption|omega|(simp (disch:=first|assumption|omega) only [sB,Nat.reduceAdd,Nat.reduceLT,Nat.reduceLeDiff,Nat.reduceEqDiff,Nat.reduceMul,↓reduceIte,hG,gd_tm,gd_zt];done)|fail) only [sA,↓reduceIte,Nat.reduceLT,Nat.reduceEqDiff,Nat.reduceAdd,Nat.reduceLeDiff,c1,hc,LX_loop,aidx0,l43_0,hG,gd_tm,gd_zt]
    exact finish_flat (flatP rfl) ((((((Hp.start hg).box (r := n) (m := n + 1) (Nat.le_refl _) (by omega) (flatTA t)).box (r := n + 1) (m := n + 2) (by omega) (by omega) (flatTA s)).box (r := n + 2) (m := n + 3) (k := 6) (d := (D.agg [.int .i64 0,.int .i64 0,.bool false,.str [],.nils,.nils])) (by omega) (by omega) rfl).box (r := n + 10) (m := n + 11) (by omega) (by omega) (flatTA t)).mono (by omega))
end Go.Proofs.Ytdijijblccmfbaa
