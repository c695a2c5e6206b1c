/- TermLaws: what is lifted is not touched by a replacement at the place where it was lifted; two replacements may be made in either order. Condition: what is handed in is of bulk at most 1048576. -/
import Derived.Test.YtdijijblccmfbaaTME
import Derived.Test.YtdijijblccmfbaaTS
import Derived.Test.YtdijijblccmfbaaTK
import Derived.Test.YtdijijblccmfbaaTR
import Derived.Test.YtdijijblccmfbaaTT
import Derived.Test.YtdijijblccmfbaaCW1
import Derived.Test.YtdijijblccmfbaaA38
set_option linter.unusedSimpArgs false
set_option linter.unusedVariables false
namespace Go.Proofs.Ytdijijblccmfbaa
open Go Go.ChangeShapes Go.WideShapes Go.ChangeAt Go.RowKit

theorem part_one (hid : Bool) (t : Trm) : partEq hid t t = true := by
  unfold partEq
  have e : levsEq t.levels t.levels = true := levsEq_iff.2 rfl
  rw [decide_eq_true rfl,decide_eq_true rfl,e,decide_eq_true rfl,decide_eq_true rfl,decide_eq_true rfl]
  cases hid <;> simp
theorem same_one (hid : Bool) : ∀ t : Trm,sameT hid t t = true := by
  refine Trm.ind ?_
  intro t ih
  have key : ∀ l : List Trm,(∀ k,k ∈ l → k ∈ t.kids) → sameTs hid l l = true := by
    intro l
    induction l with
    | nil => intro _; exact sameTs_nil ..
    | cons k l ihl => intro hm; rw [sameTs_cons,ih k (hm k (by simp)),ihl (fun q hq => hm q (by simp [hq]))]; rfl
  rw [sameT_eq,part_one,key _ fun _ h => h]
  rfl
theorem same_clean (hid : Bool) : ∀ t : Trm,sameT hid (cleanT t) t = true := by
  refine Trm.ind ?_
  intro t ih
  have key : ∀ l : List Trm,(∀ k,k ∈ l → k ∈ t.kids) → sameTs hid (l.map cleanT) l = true := by
    intro l
    induction l with
    | nil => intro _; exact sameTs_nil ..
    | cons k l ihl => intro hm; rw [List.map_cons,sameTs_cons,ih k (hm k (by simp)),ihl (fun q hq => hm q (by simp [hq]))]; rfl
  rw [sameT_eq,clean_kids,key _ fun _ h => h,Bool.and_true]
  obtain ⟨f,n,h,nm,ls,ks⟩ := t
  rw [clean_eq]
  unfold partEq
  show (decide (f = f) && (decide ((ks.map cleanT).length = ks.length) && (if f = 1 ∨ f = 11 then decide ((if f = 1 ∨ f = 11 then n else 0) = n) else if f = 3 ∨ f = 4 ∨ f = 5 then !hid || decide ((if f = 3 ∨ f = 4 ∨ f = 5 then h else false) = h) else if f = 2 then levsEq (if f = 2 ∨ f = 10 then ls else []) ls else if f = 10 then decide ((if f = 10 then nm else []) = nm) && levsEq (if f = 2 ∨ f = 10 then ls else []) ls else true))) = true
  have e : levsEq ls ls = true := levsEq_iff.2 rfl
  rw [decide_eq_true (show (ks.map cleanT).length = ks.length from List.length_map ..),decide_eq_true rfl,Bool.true_and,Bool.true_and]
  by_cases h1 : f = 1 ∨ f = 11
  · rw [if_pos h1,if_pos h1,decide_eq_true rfl]
  · rw [if_neg h1]
    by_cases h3 : f = 3 ∨ f = 4 ∨ f = 5
    · rw [if_pos h3,if_pos h3,decide_eq_true rfl,Bool.or_true]
    · rw [if_neg h3]
      by_cases h2 : f = 2
      · rw [if_pos h2,if_pos (.inl h2),e]
      · rw [if_neg h2]
        by_cases h10 : f = 10
        · rw [if_pos h10,if_pos h10,if_pos (.inr h10),e,decide_eq_true rfl]; rfl
        · rw [if_neg h10]
theorem tmb_arg {H : Type} : ∀ (f : Nat) (x : DataW H),Fit Try.prog f 25 x → ∃ t : Tm,dVal Try.prog f 25 x = encT t ∧ saneT t.abs = true ∧ (Rows.uptoBulk x ≤ 1048576 → fewT t.abs = true) := by
  intro f
  induction f using Nat.strongRecOn with
  | _ f ih =>
  intro x h
  obtain ⟨g,a,b,c,d,e,k,rfl,rfl,h1,h2,h3,h4,h5,h6,h7⟩ := struct6 Try.underlying25 h
  obtain ⟨i,e1,_⟩ := int_arg Try.underlying3 h1
  obtain ⟨j,e2,_⟩ := int_arg Try.underlying3 h2
  obtain ⟨q,e3⟩ := bool_arg Try.underlying4 h3
  obtain ⟨l,rfl,e4,_⟩ := str_arg Try.underlying9 h4
  obtain ⟨ls,e5,m5,n5⟩ := slice_arg (k := 2) (enc := encL) (R := fun _ _ => True) Try.underlying22 (by kernel_rfl) h5 (fun g' y _ hy => by
    obtain ⟨l,e⟩ := lev_arg g' y hy
    exact ⟨l,e,trivial⟩)
  obtain ⟨s,e6,m6,m7⟩ := slice_arg (k := 6) (enc := encT) (R := fun t y => saneT t.abs = true ∧ (Rows.uptoBulk y ≤ 1048576 → fewT t.abs = true)) Try.underlying23 (by kernel_rfl) h6 (fun g' y hg hy => by
    obtain ⟨t,e,hs⟩ := ih g' (by omega) y hy
    exact ⟨t,e,hs⟩)
  refine ⟨.mk i j q (l.map UInt8.toNat) ls s.nil s.full s.el s.sp,?_,?_,?_⟩
  · rw [h7,encT_eq]
    show D.agg (cells (dVal _ g 3 a) ++ (cells (dVal _ g 3 b) ++ (cells (dVal _ g 4 c) ++ (cells (dVal _ g 9 _) ++ (cells (dVal _ g 22 e) ++ cells (dVal _ g 23 k)))))) = _
    rw [e1,e2,e3,e4,e5,e6,cells_int,cells_int,cells_bool,cells_str,cells_slD,cells_slD]
    rfl
  · refine (sane_eq _).2 ⟨?_,?_⟩
    · rw [abs_levels,abs_kids,List.length_map,List.length_map]
      show ls.el.length ≤ _ ∧ s.el.length ≤ _
      have : maxLen = 9223372036854775807 := rfl
      omega
    · rw [abs_kids]
      intro k hk
      obtain ⟨y,hy,rfl⟩ := List.mem_map.1 hk
      replace hy : y ∈ s.el := hy
      rcases m7 with ⟨_,h8,_⟩ | ⟨es,sp,_,h8,_⟩
      · rw [h8] at hy; cases hy
      · obtain ⟨_,_,h9⟩ := h8.mem y hy
        exact h9.1
  · intro hb
    rw [bulk_agg,bulk_cons,bulk_cons,bulk_cons,bulk_cons,bulk_cons,bulk_cons,bulk_nil] at hb
    refine (few_eq _).2 ⟨?_,?_⟩
    · rw [abs_levels,List.length_map]
      show ls.el.length ≤ _
      rcases n5 with ⟨_,h8,_⟩ | ⟨es,sp,rfl,h8,_⟩
      · rw [h8]; simp
      · have := h8.len
        rw [bulk_slice] at hb
        have := bulk_len es
        omega
    · rw [abs_kids]
      intro k hk
      obtain ⟨y,hy,rfl⟩ := List.mem_map.1 hk
      replace hy : y ∈ s.el := hy
      rcases m7 with ⟨_,h8,_⟩ | ⟨es,sp,rfl,h8,_⟩
      · rw [h8] at hy; cases hy
      · obtain ⟨z,hz,h9⟩ := h8.mem y hy
        rw [bulk_slice] at hb
        have := bulk_mem hz
        exact h9.2 (by omega)
theorem aliveW : callFn (LX (cF Try.prog)) 5 [] [] ((cF Try.prog) 12) = .ok (.bool true) 5 [] := by
  have h : callFn (exec (tbT.look (cF Try.prog)) 1000) 5 [] [] (tbT.look (cF Try.prog) 12) = .ok (.bool true) 5 [] := by kernel_rfl
  rw [Tb.look_eq tbT_ok] at h
  exact callFn_LX _ h
theorem leak_no (h : Hps) : Ytdijijblccmfbaa.leak 0 h = false := by
  induction h with
  | nil => rfl
  | cons p t ih => rw [show p = (p.1,p.2) from rfl,leak_new (Nat.zero_le _)]; exact ih
theorem numW (n : Nat) (h : Hps) (hg : Gd n h) (a : Int) : callFn (LX (cF Try.prog)) n h [.int .i64 a] (cF Try.prog 19) = .ok (.int .i64 a) n h := by
  have hgn := hg n (Nat.le_refl _)
  rw [f19_eq]; unfold c19; rw [callFn_eq (by rfl)]
  simp (disch:=first|assumption|omega|(simp (disch:=first|assumption|omega) only [sB,Nat.reduceAdd,Nat.reduceLT,Nat.reduceLeDiff,Nat.reduceEqDiff,Nat.reduceMul,↓reduceIte];done)|fail) only [sA,↓reduceIte,Nat.reduceLT,Nat.reduceEqDiff,Nat.reduceAdd,Nat.reduceLeDiff]
theorem bin_mul {a b : Int} (h1 : -9223372036854775808 ≤ a * b) (h2 : a * b ≤ 9223372036854775807) : binD .mul (.int .i64 a) (.int .i64 b) = .int .i64 (a * b) := by
  show D.int .i64 (wr .i64 (a * b)) = _
  rw [wr_in h1 h2]
theorem check_in (t : Trm) : 0 ≤ checkT t ∧ checkT t ≤ 10 := by unfold checkT; split <;> (try split) <;> omega
theorem LiftIs.in {t t' : Tm} {a b e : Int} (h : LiftIs t a b t' e) : 0 ≤ e ∧ e ≤ 10 := by
  have := check_in t.abs
  rcases h with h | h | h <;> omega
theorem SubIs.in {t s t' : Tm} {p e : Int} (h : SubIs t p s t' e) : 0 ≤ e ∧ e ≤ 10 := by
  have := check_in t.abs
  have := check_in s.abs
  rcases h with h | h | h <;> omega
theorem few_zero : fewT zeroT.abs = true := by decide
theorem LiftIs.few {t t' : Tm} {a b e : Int} (h : LiftIs t a b t' e) (hw : fewT t.abs = true) : fewT t'.abs = true := by
  rcases h with ⟨_,_,h,_⟩ | ⟨_,_,rfl⟩ | ⟨_,_,rfl⟩
  · rw [h]; exact few_lift _ _ (few_clean _ hw) _
  · exact few_zero
  · exact few_zero
theorem SubIs.few {t s t' : Tm} {p e : Int} (h : SubIs t p s t' e) (hw : fewT t.abs = true) (hw2 : fewT s.abs = true) : fewT t'.abs = true := by
  rcases h with ⟨_,_,_,h,_⟩ | ⟨_,rfl,_⟩ | ⟨_,_,_,rfl⟩
  · rw [h]; exact few_sub _ (few_clean _ hw2) _ (few_clean _ hw) _
  · exact few_zero
  · exact few_zero
theorem LiftIs.ok {t t' : Tm} {a b : Int} (h : LiftIs t a b t' 0) : checkT t.abs = 0 ∧ t'.abs = rlift b (cleanT t.abs) a ∧ checkT t'.abs = 0 := by
  rcases h with ⟨_,h⟩ | ⟨h,_⟩ | ⟨_,h,_⟩
  · exact h
  · exact absurd rfl h
  · cases h
theorem SubIs.ok {t s t' : Tm} {p : Int} (h : SubIs t p s t' 0) : checkT t.abs = 0 ∧ checkT s.abs = 0 ∧ t'.abs = rsub p (cleanT s.abs) (cleanT t.abs) 0 ∧ checkT t'.abs = 0 := by
  rcases h with ⟨_,h⟩ | ⟨h,_⟩ | ⟨_,_,h,_⟩
  · exact h
  · exact absurd rfl h
  · cases h
theorem LiftIs.bad {t t' : Tm} {a b e : Int} (h : LiftIs t a b t' e) (hc : checkT t.abs = 0) (he : e ≠ 0) : e = 2 := by
  rcases h with h | h | h
  · exact absurd h.1 he
  · omega
  · exact h.2.1
theorem SubIs.bad {t s t' : Tm} {p e : Int} (h : SubIs t p s t' e) (hc : checkT t.abs = 0) (hc2 : checkT s.abs = 0) (he : e ≠ 0) : e = 2 := by
  rcases h with h | h | h
  · exact absurd h.1 he
  · omega
  · exact h.2.2.1
theorem law_back {t s up back : Tm} (h1 : LiftIs t 0 1 up 0) (h2 : SubIs up 0 s back 0) : (goodT back.abs && goodT t.abs && sameT true back.abs t.abs) = true := by
  obtain ⟨k1,k2,_⟩ := h1.ok
  obtain ⟨_,_,k5,k6⟩ := h2.ok
  have hl := formed_leaf _ (good_parts k1).1
  have hlc : leafT (cleanT t.abs) = true := formed_leaf _ (by rw [clean_formed]; exact (good_parts k1).1)
  have e : back.abs = cleanT t.abs := by
    rw [k5,k2,clean_lift,clean_clean]
    have := rsub_lift (x := cleanT s.abs) (b := 0) (Int.le_refl _) (cleanT t.abs) hlc 0
    rw [show (0 : Int) + 1 = 1 from rfl,show (0 : Int) + 0 = 0 from rfl,rlift_zero] at this
    exact this
  rw [check_ok.1 k6,check_ok.1 k1,e,same_clean]; rfl
theorem law_swap {t s u over a b c d g : Tm} (h0 : LiftIs u 0 1 over 0) (h1 : SubIs t 0 s a 0) (h2 : SubIs a 0 u b 0) (h3 : SubIs t 1 over c 0) (h4 : SubIs s 0 u d 0) (h5 : SubIs c 0 d g 0) : (goodT b.abs && goodT g.abs && sameT true b.abs g.abs) = true := by
  obtain ⟨k1,k2,_⟩ := h0.ok
  obtain ⟨a1,a2,a3,_⟩ := h1.ok
  obtain ⟨_,_,b3,b4⟩ := h2.ok
  obtain ⟨_,_,c3,_⟩ := h3.ok
  obtain ⟨_,_,d3,_⟩ := h4.ok
  obtain ⟨_,_,g3,g4⟩ := h5.ok
  have lf : ∀ {x : Tm},checkT x.abs = 0 → leafT (cleanT x.abs) = true := fun h => formed_leaf _ (by rw [clean_formed]; exact (good_parts h).1)
  have e : b.abs = g.abs := by
    rw [b3,g3,a3,c3,d3,k2]
    simp only [clean_sub,clean_lift,clean_clean]
    exact sub_sub (lf a2) (lf k1) (cleanT t.abs) (lf a1) 0 (Int.le_refl _)
  rw [check_ok.1 b4,check_ok.1 g4,e,same_one]; rfl
theorem z00 : (0 : Int) + 0 = 0 := eqOf rfl
theorem z02 : decide ((0 : Int) = 2) = false := eqOf rfl
set_option maxHeartbeats 16000000 in
set_option maxRecDepth 8000 in
theorem tl_run (t s u : Tm) (st : saneT t.abs = true) (ss : saneT s.abs = true) (su : saneT u.abs = true) (wt : fewT t.abs = true) (ws : fewT s.abs = true) (wu : fewT u.abs = true) : ∃ n' h',callFn (LX (cF Try.prog)) 0 [] [(D.agg [.int .i64 (t).form,.int .i64 (t).n,.bool (t).hid,.str (t).name,slD 2 encL (t).levels,slD 6 encT (t).kids]),(D.agg [.int .i64 (s).form,.int .i64 (s).n,.bool (s).hid,.str (s).name,slD 2 encL (s).levels,slD 6 encT (s).kids]),(D.agg [.int .i64 (u).form,.int .i64 (u).n,.bool (u).hid,.str (u).name,slD 2 encL (u).levels,slD 6 encT (u).kids])] ((cF Try.prog) 9) = .ok (.bool true) n' h' := by
  have F0 := fun m h => finishD_flat (n0 := 0) (n := m) (d := .bool true) rfl (leak_no h)
  have hG : ∀ m,3 ≤ m → Gd m [(2,(Ob.row 6 [.agg [.int .i64 (u).form,.int .i64 (u).n,.bool (u).hid,.str (u).name,slD 2 encL (u).levels,slD 6 encT (u).kids]])),(1,(Ob.row 6 [.agg [.int .i64 (s).form,.int .i64 (s).n,.bool (s).hid,.str (s).name,slD 2 encL (s).levels,slD 6 encT (s).kids]])),(0,(Ob.row 6 [.agg [.int .i64 (t).form,.int .i64 (t).n,.bool (t).hid,.str (t).name,slD 2 encL (t).levels,slD 6 encT (t).kids]]))] := fun m hm => by
    rw [gd_tm (by omega),gd_tm (by omega),gd_tm (by omega)]
    exact fun _ _ => good_nil
  rw [f9_eq]; unfold c9; rw [callFn_eq (by rfl)]
  obtain ⟨x,hx⟩ := bigE t st 9 [(2,(Ob.row 6 [.agg [.int .i64 (u).form,.int .i64 (u).n,.bool (u).hid,.str (u).name,slD 2 encL (u).levels,slD 6 encT (u).kids]])),(1,(Ob.row 6 [.agg [.int .i64 (s).form,.int .i64 (s).n,.bool (s).hid,.str (s).name,slD 2 encL (s).levels,slD 6 encT (s).kids]])),(0,(Ob.row 6 [.agg [.int .i64 (t).form,.int .i64 (t).n,.bool (t).hid,.str (t).name,slD 2 encL (t).levels,slD 6 encT (t).kids]]))] (hG 9 (by decide))
  cases x with
  | true =>
    simp (disch:=first|assumption|omega|(simp (disch:=first|assumption|omega) only [sB,Nat.reduceAdd,Nat.reduceLT,Nat.reduceLeDiff,Nat.reduceEqDiff,Nat.reduceMul,↓reduceIte];done)|fail) only [sA,↓reduceIte,Nat.reduceLT,Nat.reduceEqDiff,Nat.reduceAdd,Nat.reduceLeDiff,aliveW,hx,F0]
    exact ⟨_,_,rfl⟩
  | false =>
  obtain ⟨y,hy⟩ := bigE s ss 13 [(2,(Ob.row 6 [.agg [.int .i64 (u).form,.int .i64 (u).n,.bool (u).hid,.str (u).name,slD 2 encL (u).levels,slD 6 encT (u).kids]])),(1,(Ob.row 6 [.agg [.int .i64 (s).form,.int .i64 (s).n,.bool (s).hid,.str (s).name,slD 2 encL (s).levels,slD 6 encT (s).kids]])),(0,(Ob.row 6 [.agg [.int .i64 (t).form,.int .i64 (t).n,.bool (t).hid,.str (t).name,slD 2 encL (t).levels,slD 6 encT (t).kids]]))] (hG 13 (by decide))
  cases y with
  | true =>
    simp (disch:=first|assumption|omega|(simp (disch:=first|assumption|omega) only [sB,Nat.reduceAdd,Nat.reduceLT,Nat.reduceLeDiff,Nat.reduceEqDiff,Nat.reduceMul,↓reduceIte];done)|fail) only [sA,↓reduceIte,Nat.reduceLT,Nat.reduceEqDiff,Nat.reduceAdd,Nat.reduceLeDiff,aliveW,hx,hy,F0]
    exact ⟨_,_,rfl⟩
  | false =>
  obtain ⟨z,hz⟩ := bigE u su 18 [(2,(Ob.row 6 [.agg [.int .i64 (u).form,.int .i64 (u).n,.bool (u).hid,.str (u).name,slD 2 encL (u).levels,slD 6 encT (u).kids]])),(1,(Ob.row 6 [.agg [.int .i64 (s).form,.int .i64 (s).n,.bool (s).hid,.str (s).name,slD 2 encL (s).levels,slD 6 encT (s).kids]])),(0,(Ob.row 6 [.agg [.int .i64 (t).form,.int .i64 (t).n,.bool (t).hid,.str (t).name,slD 2 encL (t).levels,slD 6 encT (t).kids]]))] (hG 18 (by decide))
  cases z with
  | true =>
    simp (disch:=first|assumption|omega|(simp (disch:=first|assumption|omega) only [sB,Nat.reduceAdd,Nat.reduceLT,Nat.reduceLeDiff,Nat.reduceEqDiff,Nat.reduceMul,↓reduceIte];done)|fail) only [sA,↓reduceIte,Nat.reduceLT,Nat.reduceEqDiff,Nat.reduceAdd,Nat.reduceLeDiff,aliveW,hx,hy,hz,F0]
    exact ⟨_,_,rfl⟩
  | false =>
  have hky : ∀ m,3 ≤ m → keysFrom m [(2,(Ob.row 6 [.agg [.int .i64 (u).form,.int .i64 (u).n,.bool (u).hid,.str (u).name,slD 2 encL (u).levels,slD 6 encT (u).kids]])),(1,(Ob.row 6 [.agg [.int .i64 (s).form,.int .i64 (s).n,.bool (s).hid,.str (s).name,slD 2 encL (s).levels,slD 6 encT (s).kids]])),(0,(Ob.row 6 [.agg [.int .i64 (t).form,.int .i64 (t).n,.bool (t).hid,.str (t).name,slD 2 encL (t).levels,slD 6 encT (t).kids]]))] = [] := fun m hm => keys_gd (hG m hm)
  have zt : ∀ m h,Gd m h → callFn (LX (cF Try.prog)) m h [(D.agg [.int .i64 (t).form,.int .i64 (t).n,.bool (t).hid,.str (t).name,slD 2 encL (t).levels,slD 6 encT (t).kids])] (cF Try.prog 24) = .ok (.int .i64 (sizeV t.abs)) m h := rSize t st
  have zs : ∀ m h,Gd m h → callFn (LX (cF Try.prog)) m h [(D.agg [.int .i64 (s).form,.int .i64 (s).n,.bool (s).hid,.str (s).name,slD 2 encL (s).levels,slD 6 encT (s).kids])] (cF Try.prog 24) = .ok (.int .i64 (sizeV s.abs)) m h := rSize s ss
  have zu : ∀ m h,Gd m h → callFn (LX (cF Try.prog)) m h [(D.agg [.int .i64 (u).form,.int .i64 (u).n,.bool (u).hid,.str (u).name,slD 2 encL (u).levels,slD 6 encT (u).kids])] (cF Try.prog 24) = .ok (.int .i64 (sizeV u.abs)) m h := rSize u su
  by_cases et : sizeV t.abs = 0
  · simp (disch:=first|assumption|omega|(simp (disch:=first|assumption|omega) only [sB,Nat.reduceAdd,Nat.reduceLT,Nat.reduceLeDiff,Nat.reduceEqDiff,Nat.reduceMul,↓reduceIte,hG,gd_nil];done)|fail) only [sA,↓reduceIte,Nat.reduceLT,Nat.reduceEqDiff,Nat.reduceAdd,Nat.reduceLeDiff,aliveW,hx,hy,hz,F0,zt,et,hky,hG,gd_nil]
    exact ⟨_,_,rfl⟩
  by_cases es : sizeV s.abs = 0
  · simp (disch:=first|assumption|omega|(simp (disch:=first|assumption|omega) only [sB,Nat.reduceAdd,Nat.reduceLT,Nat.reduceLeDiff,Nat.reduceEqDiff,Nat.reduceMul,↓reduceIte,hG,gd_nil];done)|fail) only [sA,↓reduceIte,Nat.reduceLT,Nat.reduceEqDiff,Nat.reduceAdd,Nat.reduceLeDiff,aliveW,hx,hy,hz,F0,zt,et,zs,es,hky,hG,gd_nil]
    exact ⟨_,_,rfl⟩
  by_cases eu : sizeV u.abs = 0
  · simp (disch:=first|assumption|omega|(simp (disch:=first|assumption|omega) only [sB,Nat.reduceAdd,Nat.reduceLT,Nat.reduceLeDiff,Nat.reduceEqDiff,Nat.reduceMul,↓reduceIte,hG,gd_nil];done)|fail) only [sA,↓reduceIte,Nat.reduceLT,Nat.reduceEqDiff,Nat.reduceAdd,Nat.reduceLeDiff,aliveW,hx,hy,hz,F0,zt,et,zs,es,zu,eu,hky,hG,gd_nil]
    exact ⟨_,_,rfl⟩
  have hval : ∀ t : Trm,sizeV t ≠ 0 → checkT t = 0 ∧ 0 ≤ sizeV t ∧ sizeV t ≤ 20000 := fun t ht => by
    unfold sizeV at ht ⊢
    by_cases hc : checkT t = 0
    · rw [if_pos hc]
      obtain ⟨_,h2,_⟩ := good_parts hc
      exact ⟨hc,by omega,by omega⟩
    · rw [if_neg hc] at ht; exact absurd rfl ht
  obtain ⟨kt,t1,t2⟩ := hval _ et
  obtain ⟨ks,s1,s2⟩ := hval _ es
  obtain ⟨ku,u1,u2⟩ := hval _ eu
  have hm1 : 0 ≤ sizeV t.abs * (sizeV s.abs + sizeV u.abs) := Int.mul_nonneg t1 (by omega)
  have hm2 : sizeV t.abs * (sizeV s.abs + sizeV u.abs) ≤ 800000000 := by
    have := Int.mul_le_mul_of_nonneg_right t2 (show 0 ≤ sizeV s.abs + sizeV u.abs by omega)
    omega
  have hmul : binD .mul (.int .i64 (sizeV t.abs)) (.int .i64 (sizeV s.abs + sizeV u.abs)) = .int .i64 (sizeV t.abs * (sizeV s.abs + sizeV u.abs)) := bin_mul (by omega) (by omega)
  generalize sizeV t.abs * (sizeV s.abs + sizeV u.abs) = Z at hmul hm1 hm2
  by_cases eZ : 15000 < Z
  · simp (disch:=first|assumption|omega|(simp (disch:=first|assumption|omega) only [sB,Nat.reduceAdd,Nat.reduceLT,Nat.reduceLeDiff,Nat.reduceEqDiff,Nat.reduceMul,↓reduceIte,hG,gd_nil];done)|fail) only [sA,↓reduceIte,Nat.reduceLT,Nat.reduceEqDiff,Nat.reduceAdd,Nat.reduceLeDiff,aliveW,hx,hy,hz,F0,zt,et,zs,es,zu,eu,hky,hmul,eZ,hG,gd_nil]
    exact ⟨_,_,rfl⟩
  have cN : ∀ m h a,Gd m h → callFn (LX (cF Try.prog)) m h [.int .i64 a] (cF Try.prog 19) = .ok (.int .i64 a) m h := fun m h a hg => numW m h hg a
  obtain ⟨up,e,Lup,sup,cup⟩ := tLift t wt st 0 1 (by omega) (by omega) (by omega)
  obtain ⟨back,f,Lba,sba,cba⟩ := tSubst up s (Lup.few wt) sup ws ss 0 (by omega)
  simp only [encT_eq] at cup cba
  have he := Lup.in
  have hf := Lba.in
  by_cases he0 : e = 0
  · by_cases hf0 : f = 0
    · subst he0 hf0
      have cSb : ∀ m h,Gd m h → callFn (LX (cF Try.prog)) m h [(D.agg [.int .i64 (back).form,.int .i64 (back).n,.bool (back).hid,.str (back).name,slD 2 encL (back).levels,slD 6 encT (back).kids]),(D.agg [.int .i64 (t).form,.int .i64 (t).n,.bool (t).hid,.str (t).name,slD 2 encL (t).levels,slD 6 encT (t).kids])] (cF Try.prog 41) = .ok (.bool true) m h := fun m h hg => by
        have := pSame back t sba st m h hg
        rwa [law_back Lup Lba] at this
      obtain ⟨over,e0,L0,so,co⟩ := tLift u wu su 0 1 (by omega) (by omega) (by omega)
      obtain ⟨a,e1,L1,sa,ca⟩ := tSubst t s wt st ws ss 0 (by omega)
      obtain ⟨b,e2,L2,sb,cb⟩ := tSubst a u (L1.few wt ws) sa wu su 0 (by omega)
      obtain ⟨c,e3,L3,sc,cc⟩ := tSubst t over wt st (L0.few wu) so 1 (by omega)
      obtain ⟨d,e4,L4,sd,cd⟩ := tSubst s u ws ss wu su 0 (by omega)
      obtain ⟨g,e5,L5,sg,cg⟩ := tSubst c d (L3.few wt (L0.few wu)) sc (L4.few ws wu) sd 0 (by omega)
      simp only [encT_eq] at co ca cb cc cd cg
      have i0 := L0.in
      have i1 := L1.in
      have i2 := L2.in
      have i3 := L3.in
      have i4 := L4.in
      have i5 := L5.in
      by_cases hs : e0 + e1 + e2 + e3 + e4 + e5 = 0
      · obtain rfl : e0 = 0 := by omega
        obtain rfl : e1 = 0 := by omega
        obtain rfl : e2 = 0 := by omega
        obtain rfl : e3 = 0 := by omega
        obtain rfl : e4 = 0 := by omega
        obtain rfl : e5 = 0 := by omega
        have cSg : ∀ m h,Gd m h → callFn (LX (cF Try.prog)) m h [(D.agg [.int .i64 (b).form,.int .i64 (b).n,.bool (b).hid,.str (b).name,slD 2 encL (b).levels,slD 6 encT (b).kids]),(D.agg [.int .i64 (g).form,.int .i64 (g).n,.bool (g).hid,.str (g).name,slD 2 encL (g).levels,slD 6 encT (g).kids])] (cF Try.prog 41) = .ok (.bool true) m h := fun m h hg => by
          have := pSame b g sb sg m h hg
          rwa [law_swap L0 L1 L2 L3 L4 L5] at this
        simp (disch:=first|assumption|omega|(simp (disch:=first|assumption|omega) only [sB,Nat.reduceAdd,Nat.reduceLT,Nat.reduceLeDiff,Nat.reduceEqDiff,Nat.reduceMul,↓reduceIte,hG,gd_nil,gd_tm];done)|fail) only [sA,↓reduceIte,Nat.reduceLT,Nat.reduceEqDiff,Nat.reduceAdd,Nat.reduceLeDiff,aliveW,hx,hy,hz,F0,zt,et,zs,es,zu,eu,hky,hmul,eZ,cN,cup,cba,cSb,co,ca,cb,cc,cd,cg,cSg,z00,hG,gd_nil,gd_tm]
        exact ⟨_,_,rfl⟩
      · simp (disch:=first|assumption|omega|(simp (disch:=first|assumption|omega) only [sB,Nat.reduceAdd,Nat.reduceLT,Nat.reduceLeDiff,Nat.reduceEqDiff,Nat.reduceMul,↓reduceIte,hG,gd_nil,gd_tm];done)|fail) only [sA,↓reduceIte,Nat.reduceLT,Nat.reduceEqDiff,Nat.reduceAdd,Nat.reduceLeDiff,aliveW,hx,hy,hz,F0,zt,et,zs,es,zu,eu,hky,hmul,eZ,cN,cup,cba,cSb,co,ca,cb,cc,cd,cg,hs,hG,gd_nil,gd_tm]
        exact ⟨_,_,rfl⟩
    · have hf2 : decide (f = 2) = true := by
        subst he0
        obtain ⟨_,_,k3⟩ := Lup.ok
        exact decide_eq_true (Lba.bad k3 ks hf0)
      subst he0
      simp (disch:=first|assumption|omega|(simp (disch:=first|assumption|omega) only [sB,Nat.reduceAdd,Nat.reduceLT,Nat.reduceLeDiff,Nat.reduceEqDiff,Nat.reduceMul,↓reduceIte,hG,gd_nil,gd_tm];done)|fail) only [sA,↓reduceIte,Nat.reduceLT,Nat.reduceEqDiff,Nat.reduceAdd,Nat.reduceLeDiff,aliveW,hx,hy,hz,F0,zt,et,zs,es,zu,eu,hky,hmul,eZ,cN,cup,cba,hf0,hf2,z02,hG,gd_nil,gd_tm]
      exact ⟨_,_,rfl⟩
  · have he2 : decide (e = 2) = true := decide_eq_true (Lup.bad kt he0)
    simp (disch:=first|assumption|omega|(simp (disch:=first|assumption|omega) only [sB,Nat.reduceAdd,Nat.reduceLT,Nat.reduceLeDiff,Nat.reduceEqDiff,Nat.reduceMul,↓reduceIte,hG,gd_nil,gd_tm];done)|fail) only [sA,↓reduceIte,Nat.reduceLT,Nat.reduceEqDiff,Nat.reduceAdd,Nat.reduceLeDiff,aliveW,hx,hy,hz,F0,zt,et,zs,es,zu,eu,hky,hmul,eZ,cN,cup,cba,he0,he2,hG,gd_nil,gd_tm]
    exact ⟨_,_,rfl⟩
end Go.Proofs.Ytdijijblccmfbaa
