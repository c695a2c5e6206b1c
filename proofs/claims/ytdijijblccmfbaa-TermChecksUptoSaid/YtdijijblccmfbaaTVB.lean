/- TermChecks: whether every term is one, how many parts it has, which of its variables are free, and whether a name stands in it. Condition: what is handed in is of bulk at most 1048576. -/
import Derived.Test.YtdijijblccmfbaaTV
import Derived.Test.YtdijijblccmfbaaTVA
import Derived.Test.YtdijijblccmfbaaTJ
import Derived.Test.YtdijijblccmfbaaTK
import Derived.Test.YtdijijblccmfbaaTR
import Derived.Test.YtdijijblccmfbaaTT
import Derived.Test.YtdijijblccmfbaaA38
set_option linter.unusedSimpArgs false
set_option linter.unusedVariables false
namespace Go.Proofs.Ytdijijblccmfbaa
open Go Go.ChangeShapes Go.WideShapes Go.ChangeAt Go.RowKit

def freeC (t : Trm) : Int := if checkT t = 0 then freeV t 0 else 0
def hasC (s : List Nat) (t : Trm) : Bool := if checkT t = 0 then hasV s t else false
theorem ok_parts {t : Trm} (hw : fewT t = true) (h : checkT t = 0) : slimT t = true ∧ leafT t = true ∧ highT t ≤ 500 := by
  have h1 := check_ok.1 h
  unfold goodT fitsT at h1
  rw [Bool.and_eq_true,decide_eq_true_iff] at h1
  exact ⟨slim_of _ h1.2 hw,formed_leaf _ h1.2,h1.1.2⟩

section
variable (n : Nat) (h : Hps) (hg : Gd n h) (t : Tm) (hs : slimT t.abs = true) (hl : leafT t.abs = true) (hh : highT t.abs ≤ 500)
include hg hs hl hh
theorem pFreeR : callFn (LX (cF Try.prog)) n h [(D.agg [.int .i64 (t).form,.int .i64 (t).n,.bool (t).hid,.str (t).name,slD 2 encL (t).levels,slD 6 encT (t).kids])] (cF Try.prog 75) = .ok (.int .i64 (freeV t.abs 0)) n h := by
  have hgn := hg n (Nat.le_refl _)
  have H0 : Hp n h (n + 3) ((n + 2,.row 1 [.int .i64 0]) :: (n,(Ob.row 6 [.agg [.int .i64 (t).form,.int .i64 (t).n,.bool (t).hid,.str (t).name,slD 2 encL (t).levels,slD 6 encT (t).kids]])) :: h) := ((Hp.start hg).box (r := n) (m := n + 1) (Nat.le_refl _) (by omega) (flatTA t)).box (r := n + 2) (m := n + 3) (by omega) (by omega) rfl
  obtain ⟨h2,e2,U2⟩ := anyFree (r := n + 2) t hs hl 0 0 (Int.le_refl _) (by omega) (Int.le_refl _) (by omega) (n + 7) _ (fun k hk => H0.good k (by omega)) (by omega) getO_hd
  have H2 := Cnt.own H0 U2 (by omega) (by omega)
  have f0 := free_in t hs 0 (Int.le_refl _)
  rw [show max 0 (freeV t.abs 0) = freeV t.abs 0 by omega] at U2
  have w := U2.1
  rw [f75_eq]; unfold c75; rw [callFn_eq (by rfl)]
  simp (disch:=first|assumption|omega|(simp (disch:=first|assumption|omega) only [sB,Nat.reduceAdd,Nat.reduceLT,Nat.reduceLeDiff,Nat.reduceEqDiff,Nat.reduceMul,↓reduceIte];done)|fail) only [sA,↓reduceIte,Nat.reduceLT,Nat.reduceEqDiff,Nat.reduceAdd,Nat.reduceLeDiff,e2,w]
  exact finish_flat (d := .int .i64 (freeV t.abs 0)) rfl (H2.mono (by omega))
theorem pHasR (nm : List Nat) : callFn (LX (cF Try.prog)) n h [(D.agg [.int .i64 (t).form,.int .i64 (t).n,.bool (t).hid,.str (t).name,slD 2 encL (t).levels,slD 6 encT (t).kids]),.str nm] (cF Try.prog 77) = .ok (.bool (hasV nm t.abs)) n h := by
  have hgn := hg n (Nat.le_refl _)
  have H0 : Hp n h (n + 2) ((n + 1,.row 1 [.str nm]) :: (n,(Ob.row 6 [.agg [.int .i64 (t).form,.int .i64 (t).n,.bool (t).hid,.str (t).name,slD 2 encL (t).levels,slD 6 encT (t).kids]])) :: h) := ((Hp.start hg).box (r := n) (m := n + 1) (Nat.le_refl _) (by omega) (flatTA t)).box (r := n + 1) (m := n + 2) (by omega) (by omega) rfl
  have e2 := anyHas (r := n + 1) (nm := nm) t hs 0 (Int.le_refl _) (by omega) (n + 6) _ (fun k hk => H0.good k (by omega)) (by omega) getO_hd
  have _ := hl
  rw [f77_eq]; unfold c77; rw [callFn_eq (by rfl)]
  simp (disch:=first|assumption|omega|(simp (disch:=first|assumption|omega) only [sB,Nat.reduceAdd,Nat.reduceLT,Nat.reduceLeDiff,Nat.reduceEqDiff,Nat.reduceMul,↓reduceIte];done)|fail) only [sA,↓reduceIte,Nat.reduceLT,Nat.reduceEqDiff,Nat.reduceAdd,Nat.reduceLeDiff,e2]
end
section
variable (t : Tm) (hs : saneT t.abs = true) (hw : fewT t.abs = true)
include hs hw
theorem tFree (n : Nat) (h : Hps) (hg : Gd n h) : callFn (LX (cF Try.prog)) n h [(D.agg [.int .i64 (t).form,.int .i64 (t).n,.bool (t).hid,.str (t).name,slD 2 encL (t).levels,slD 6 encT (t).kids])] (cF Try.prog 37) = .ok (.int .i64 (freeC t.abs)) n h := by
  have hgn := hg n (Nat.le_refl _)
  have hG : ∀ m,n ≤ m → Gd m h := fun m hm => Gd.mono hg hm
  have c1 : ∀ m h,Gd m h → callFn (LX (cF Try.prog)) m h [(D.agg [.int .i64 (t).form,.int .i64 (t).n,.bool (t).hid,.str (t).name,slD 2 encL (t).levels,slD 6 encT (t).kids])] (cF Try.prog 22) = .ok (.int .i64 (checkT t.abs)) m h := pCheck t hs
  unfold freeC
  by_cases hc : checkT t.abs = 0
  · obtain ⟨k1,k2,k3⟩ := ok_parts hw hc
    have c2 : ∀ m h,Gd m h → callFn (LX (cF Try.prog)) m h [(D.agg [.int .i64 (t).form,.int .i64 (t).n,.bool (t).hid,.str (t).name,slD 2 encL (t).levels,slD 6 encT (t).kids])] (cF Try.prog 75) = .ok (.int .i64 (freeV t.abs 0)) m h := fun m h hg => pFreeR m h hg t k1 k2 k3
    rw [if_pos hc]
    rw [f37_eq]; unfold c37; rw [callFn_eq (by rfl)]
    simp (disch:=first|assumption|omega|(simp (disch:=first|assumption|omega) only [sB,Nat.reduceAdd,Nat.reduceLT,Nat.reduceLeDiff,Nat.reduceEqDiff,Nat.reduceMul,↓reduceIte,hG,gd_tm];done)|fail) only [sA,↓reduceIte,Nat.reduceLT,Nat.reduceEqDiff,Nat.reduceAdd,Nat.reduceLeDiff,c1,hc,c2,hG,gd_tm]
  · rw [if_neg hc]
    rw [f37_eq]; unfold c37; rw [callFn_eq (by rfl)]
    simp (disch:=first|assumption|omega|(simp (disch:=first|assumption|omega) only [sB,Nat.reduceAdd,Nat.reduceLT,Nat.reduceLeDiff,Nat.reduceEqDiff,Nat.reduceMul,↓reduceIte,hG,gd_tm];done)|fail) only [sA,↓reduceIte,Nat.reduceLT,Nat.reduceEqDiff,Nat.reduceAdd,Nat.reduceLeDiff,c1,hc,hG,gd_tm]
theorem rFreeT (n : Nat) (h : Hps) (hg : Gd n h) : callFn (LX (cF Try.prog)) n h [(D.agg [.int .i64 (t).form,.int .i64 (t).n,.bool (t).hid,.str (t).name,slD 2 encL (t).levels,slD 6 encT (t).kids])] (cF Try.prog 38) = .ok (.int .i64 (freeC t.abs)) n h := by
  have hgn := hg n (Nat.le_refl _)
  have hG : ∀ m,n ≤ m → Gd m h := fun m hm => Gd.mono hg hm
  have c1 : ∀ m h,Gd m h → callFn (LX (cF Try.prog)) m h [(D.agg [.int .i64 (t).form,.int .i64 (t).n,.bool (t).hid,.str (t).name,slD 2 encL (t).levels,slD 6 encT (t).kids])] (cF Try.prog 27) = .ok (.int .i64 (checkT t.abs)) m h := rCheck t hs
  unfold freeC
  by_cases hc : checkT t.abs = 0
  · obtain ⟨k1,k2,k3⟩ := ok_parts hw hc
    have c2 : ∀ m h,Gd m h → callFn (LX (cF Try.prog)) m h [(D.agg [.int .i64 (t).form,.int .i64 (t).n,.bool (t).hid,.str (t).name,slD 2 encL (t).levels,slD 6 encT (t).kids]),.int .i64 0] (cF Try.prog 76) = .ok (.int .i64 (freeV t.abs 0)) m h := fun m h hg => rFreeV t k1 0 (Int.le_refl _) (by omega) m h hg
    rw [if_pos hc]
    rw [f38_eq]; unfold c38; rw [callFn_eq (by rfl)]
    simp (disch:=first|assumption|omega|(simp (disch:=first|assumption|omega) only [sB,Nat.reduceAdd,Nat.reduceLT,Nat.reduceLeDiff,Nat.reduceEqDiff,Nat.reduceMul,↓reduceIte,hG,gd_tm];done)|fail) only [sA,↓reduceIte,Nat.reduceLT,Nat.reduceEqDiff,Nat.reduceAdd,Nat.reduceLeDiff,c1,hc,c2,hG,gd_tm]
  · rw [if_neg hc]
    rw [f38_eq]; unfold c38; rw [callFn_eq (by rfl)]
    simp (disch:=first|assumption|omega|(simp (disch:=first|assumption|omega) only [sB,Nat.reduceAdd,Nat.reduceLT,Nat.reduceLeDiff,Nat.reduceEqDiff,Nat.reduceMul,↓reduceIte,hG,gd_tm];done)|fail) only [sA,↓reduceIte,Nat.reduceLT,Nat.reduceEqDiff,Nat.reduceAdd,Nat.reduceLeDiff,c1,hc,hG,gd_tm]
theorem tHas (nm : List Nat) (n : Nat) (h : Hps) (hg : Gd n h) : callFn (LX (cF Try.prog)) n h [(D.agg [.int .i64 (t).form,.int .i64 (t).n,.bool (t).hid,.str (t).name,slD 2 encL (t).levels,slD 6 encT (t).kids]),.str nm] (cF Try.prog 39) = .ok (.bool (hasC nm t.abs)) n h := by
  have hgn := hg n (Nat.le_refl _)
  have hG : ∀ m,n ≤ m → Gd m h := fun m hm => Gd.mono hg hm
  have c1 : ∀ m h,Gd m h → callFn (LX (cF Try.prog)) m h [(D.agg [.int .i64 (t).form,.int .i64 (t).n,.bool (t).hid,.str (t).name,slD 2 encL (t).levels,slD 6 encT (t).kids])] (cF Try.prog 22) = .ok (.int .i64 (checkT t.abs)) m h := pCheck t hs
  unfold hasC
  by_cases hc : checkT t.abs = 0
  · obtain ⟨k1,k2,k3⟩ := ok_parts hw hc
    have c2 : ∀ m h,Gd m h → callFn (LX (cF Try.prog)) m h [(D.agg [.int .i64 (t).form,.int .i64 (t).n,.bool (t).hid,.str (t).name,slD 2 encL (t).levels,slD 6 encT (t).kids]),.str nm] (cF Try.prog 77) = .ok (.bool (hasV nm t.abs)) m h := fun m h hg => pHasR m h hg t k1 k2 k3 nm
    rw [if_pos hc]
    rw [f39_eq]; unfold c39; rw [callFn_eq (by rfl)]
    simp (disch:=first|assumption|omega|(simp (disch:=first|assumption|omega) only [sB,Nat.reduceAdd,Nat.reduceLT,Nat.reduceLeDiff,Nat.reduceEqDiff,Nat.reduceMul,↓reduceIte,hG,gd_tm];done)|fail) only [sA,↓reduceIte,Nat.reduceLT,Nat.reduceEqDiff,Nat.reduceAdd,Nat.reduceLeDiff,c1,hc,c2,hG,gd_tm]
  · rw [if_neg hc]
    rw [f39_eq]; unfold c39; rw [callFn_eq (by rfl)]
    simp (disch:=first|assumption|omega|(simp (disch:=first|assumption|omega) only [sB,Nat.reduceAdd,Nat.reduceLT,Nat.reduceLeDiff,Nat.reduceEqDiff,Nat.reduceMul,↓reduceIte,hG,gd_tm];done)|fail) only [sA,↓reduceIte,Nat.reduceLT,Nat.reduceEqDiff,Nat.reduceAdd,Nat.reduceLeDiff,c1,hc,hG,gd_tm]
theorem rHasT (nm : List Nat) (n : Nat) (h : Hps) (hg : Gd n h) : callFn (LX (cF Try.prog)) n h [(D.agg [.int .i64 (t).form,.int .i64 (t).n,.bool (t).hid,.str (t).name,slD 2 encL (t).levels,slD 6 encT (t).kids]),.str nm] (cF Try.prog 40) = .ok (.bool (hasC nm t.abs)) n h := by
  have hgn := hg n (Nat.le_refl _)
  have hG : ∀ m,n ≤ m → Gd m h := fun m hm => Gd.mono hg hm
  have c1 : ∀ m h,Gd m h → callFn (LX (cF Try.prog)) m h [(D.agg [.int .i64 (t).form,.int .i64 (t).n,.bool (t).hid,.str (t).name,slD 2 encL (t).levels,slD 6 encT (t).kids])] (cF Try.prog 27) = .ok (.int .i64 (checkT t.abs)) m h := rCheck t hs
  unfold hasC
  by_cases hc : checkT t.abs = 0
  · obtain ⟨k1,k2,k3⟩ := ok_parts hw hc
    have c2 : ∀ m h,Gd m h → callFn (LX (cF Try.prog)) m h [(D.agg [.int .i64 (t).form,.int .i64 (t).n,.bool (t).hid,.str (t).name,slD 2 encL (t).levels,slD 6 encT (t).kids]),.str nm] (cF Try.prog 78) = .ok (.bool (hasV nm t.abs)) m h := fun m h hg => rHasV nm t k1 m h hg
    rw [if_pos hc]
    rw [f40_eq]; unfold c40; rw [callFn_eq (by rfl)]
    simp (disch:=first|assumption|omega|(simp (disch:=first|assumption|omega) only [sB,Nat.reduceAdd,Nat.reduceLT,Nat.reduceLeDiff,Nat.reduceEqDiff,Nat.reduceMul,↓reduceIte,hG,gd_tm];done)|fail) only [sA,↓reduceIte,Nat.reduceLT,Nat.reduceEqDiff,Nat.reduceAdd,Nat.reduceLeDiff,c1,hc,c2,hG,gd_tm]
  · rw [if_neg hc]
    rw [f40_eq]; unfold c40; rw [callFn_eq (by rfl)]
    simp (disch:=first|assumption|omega|(simp (disch:=first|assumption|omega) only [sB,Nat.reduceAdd,Nat.reduceLT,Nat.reduceLeDiff,Nat.reduceEqDiff,Nat.reduceMul,↓reduceIte,hG,gd_tm];done)|fail) only [sA,↓reduceIte,Nat.reduceLT,Nat.reduceEqDiff,Nat.reduceAdd,Nat.reduceLeDiff,c1,hc,hG,gd_tm]
end
theorem tmc_arg {H : Type} : ∀ (f : Nat) (x : DataW H),Fit Try.prog f 25 x → ∃ t : Tm,dVal Try.prog f 25 x = encT t ∧ saneT t.abs = true ∧ (Rows.uptoBulk x ≤ 1048576 → fewT t.abs = true ∧ narrowT t.abs = true) := by
  intro f
  induction f using Nat.strongRecOn with
  | _ f ih =>
  intro x h
  obtain ⟨g,a,b,c,d,e,k,rfl,rfl,h1,h2,h3,h4,h5,h6,h7⟩ := struct6 Try.underlying25 h
  obtain ⟨i,e1,_⟩ := int_arg Try.underlying3 h1
  obtain ⟨j,e2,_⟩ := int_arg Try.underlying3 h2
  obtain ⟨q,e3⟩ := bool_arg Try.underlying4 h3
  obtain ⟨l,rfl,e4,_⟩ := str_arg Try.underlying9 h4
  obtain ⟨ls,e5,m5,n5⟩ := slice_arg (k := 2) (enc := encL) (R := fun _ _ => True) Try.underlying22 (by kernel_rfl) h5 (fun g' y _ hy => by
    obtain ⟨l,e⟩ := lev_arg g' y hy
    exact ⟨l,e,trivial⟩)
  obtain ⟨s,e6,m6,m7⟩ := slice_arg (k := 6) (enc := encT) (R := fun t y => saneT t.abs = true ∧ (Rows.uptoBulk y ≤ 1048576 → fewT t.abs = true ∧ narrowT t.abs = true)) Try.underlying23 (by kernel_rfl) h6 (fun g' y hg hy => by
    obtain ⟨t,e,hs⟩ := ih g' (by omega) y hy
    exact ⟨t,e,hs⟩)
  refine ⟨.mk i j q (l.map UInt8.toNat) ls s.nil s.full s.el s.sp,?_,?_,?_⟩
  · rw [h7,encT_eq]
    show D.agg (cells (dVal _ g 3 a) ++ (cells (dVal _ g 3 b) ++ (cells (dVal _ g 4 c) ++ (cells (dVal _ g 9 _) ++ (cells (dVal _ g 22 e) ++ cells (dVal _ g 23 k)))))) = _
    rw [e1,e2,e3,e4,e5,e6,cells_int,cells_int,cells_bool,cells_str,cells_slD,cells_slD]
    rfl
  · refine (sane_eq _).2 ⟨?_,?_⟩
    · rw [abs_levels,abs_kids,List.length_map,List.length_map]
      show ls.el.length ≤ _ ∧ s.el.length ≤ _
      have : maxLen = 9223372036854775807 := rfl
      omega
    · rw [abs_kids]
      intro k hk
      obtain ⟨y,hy,rfl⟩ := List.mem_map.1 hk
      replace hy : y ∈ s.el := hy
      rcases m7 with ⟨_,h8,_⟩ | ⟨es,sp,_,h8,_⟩
      · rw [h8] at hy; cases hy
      · obtain ⟨_,_,h9⟩ := h8.mem y hy
        exact h9.1
  · intro hb
    rw [bulk_agg,bulk_cons,bulk_cons,bulk_cons,bulk_cons,bulk_cons,bulk_cons,bulk_nil] at hb
    have kl : ls.el.length ≤ 1048576 := by
      rcases n5 with ⟨_,h8,_⟩ | ⟨es,sp,rfl,h8,_⟩
      · rw [h8]; simp
      · have := h8.len
        rw [bulk_slice] at hb
        have := bulk_len es
        omega
    have kk : s.el.length ≤ 1048576 ∧ ∀ y,y ∈ s.el → fewT y.abs = true ∧ narrowT y.abs = true := by
      rcases m7 with ⟨_,h8,_⟩ | ⟨es,sp,rfl,h8,_⟩
      · rw [h8]; exact ⟨by simp,fun y hy => by cases hy⟩
      · rw [bulk_slice] at hb
        refine ⟨by have := h8.len; have := bulk_len es; omega,fun y hy => ?_⟩
        obtain ⟨z,hz,h9⟩ := h8.mem y hy
        have := bulk_mem hz
        exact h9.2 (by omega)
    refine ⟨(few_eq _).2 ⟨?_,?_⟩,(narrow_eq _).2 ⟨?_,?_⟩⟩
    · rw [abs_levels,List.length_map]; show ls.el.length ≤ _; omega
    · rw [abs_kids]
      intro k hk
      obtain ⟨y,hy,rfl⟩ := List.mem_map.1 hk
      exact (kk.2 y hy).1
    · rw [abs_kids,List.length_map]; show s.el.length ≤ _; omega
    · rw [abs_kids]
      intro k hk
      obtain ⟨y,hy,rfl⟩ := List.mem_map.1 hk
      exact (kk.2 y hy).2
theorem aliveX : callFn (LX (cF Try.prog)) 3 [] [] ((cF Try.prog) 12) = .ok (.bool true) 3 [] := by
  have h : callFn (exec (tbT.look (cF Try.prog)) 1000) 3 [] [] (tbT.look (cF Try.prog) 12) = .ok (.bool true) 3 [] := by kernel_rfl
  rw [Tb.look_eq tbT_ok] at h
  exact callFn_LX _ h
theorem leak_no (h : Hps) : Ytdijijblccmfbaa.leak 0 h = false := by
  induction h with
  | nil => rfl
  | cons p t ih => rw [show p = (p.1,p.2) from rfl,leak_new (Nat.zero_le _)]; exact ih
theorem numW (n : Nat) (h : Hps) (hg : Gd n h) (a : Int) : callFn (LX (cF Try.prog)) n h [.int .i64 a] (cF Try.prog 19) = .ok (.int .i64 a) n h := by
  have hgn := hg n (Nat.le_refl _)
  rw [f19_eq]; unfold c19; rw [callFn_eq (by rfl)]
  simp (disch:=first|assumption|omega|(simp (disch:=first|assumption|omega) only [sB,Nat.reduceAdd,Nat.reduceLT,Nat.reduceLeDiff,Nat.reduceEqDiff,Nat.reduceMul,↓reduceIte];done)|fail) only [sA,↓reduceIte,Nat.reduceLT,Nat.reduceEqDiff,Nat.reduceAdd,Nat.reduceLeDiff]
set_option maxHeartbeats 16000000 in
set_option maxRecDepth 8000 in
theorem tc_run (t : Tm) (nm : List Nat) (st : saneT t.abs = true) (wt : fewT t.abs = true) (nt : narrowT t.abs = true) : ∃ n' h',callFn (LX (cF Try.prog)) 0 [] [(D.agg [.int .i64 (t).form,.int .i64 (t).n,.bool (t).hid,.str (t).name,slD 2 encL (t).levels,slD 6 encT (t).kids]),.str nm] ((cF Try.prog) 7) = .ok (.bool true) n' h' := by
  have F0 := fun m h => finishD_flat (n0 := 0) (n := m) (d := .bool true) rfl (leak_no h)
  have hG : ∀ m,1 ≤ m → Gd m [(0,(Ob.row 6 [.agg [.int .i64 (t).form,.int .i64 (t).n,.bool (t).hid,.str (t).name,slD 2 encL (t).levels,slD 6 encT (t).kids]]))] := fun m hm => by
    rw [gd_tm (by omega)]
    exact fun _ _ => good_nil
  rw [f7_eq]; unfold c7; rw [callFn_eq (by rfl)]
  obtain ⟨x,hx⟩ := bigE t st 7 [(0,(Ob.row 6 [.agg [.int .i64 (t).form,.int .i64 (t).n,.bool (t).hid,.str (t).name,slD 2 encL (t).levels,slD 6 encT (t).kids]]))] (hG 7 (by decide))
  cases x with
  | true =>
    simp (disch:=first|assumption|omega|(simp (disch:=first|assumption|omega) only [sB,Nat.reduceAdd,Nat.reduceLT,Nat.reduceLeDiff,Nat.reduceEqDiff,Nat.reduceMul,↓reduceIte];done)|fail) only [sA,↓reduceIte,Nat.reduceLT,Nat.reduceEqDiff,Nat.reduceAdd,Nat.reduceLeDiff,aliveX,hx,F0]
    exact ⟨_,_,rfl⟩
  | false =>
  have c1 : ∀ m h,Gd m h → callFn (LX (cF Try.prog)) m h [(D.agg [.int .i64 (t).form,.int .i64 (t).n,.bool (t).hid,.str (t).name,slD 2 encL (t).levels,slD 6 encT (t).kids])] (cF Try.prog 14) = .ok (.agg [.int .i64 t.form,.int .i64 t.n,.bool t.hid,.str t.name,slD 2 encL t.levels,slD 6 encT (lentK t)]) m h := fun m h hg => by rw [← lent_enc]; exact wLent t nt m h hg
  have c2 : ∀ m h,Gd m h → callFn (LX (cF Try.prog)) m h [.agg [.int .i64 t.form,.int .i64 t.n,.bool t.hid,.str t.name,slD 2 encL t.levels,slD 6 encT (lentK t)]] (cF Try.prog 22) = .ok (.int .i64 (checkT t.abs)) m h := fun m h hg => by
    have := pCheck (lentT t) (by rw [lent_abs]; exact st) m h hg
    rwa [← encT_eq,lent_enc,lent_abs] at this
  have c3 : ∀ m h,Gd m h → callFn (LX (cF Try.prog)) m h [.agg [.int .i64 t.form,.int .i64 t.n,.bool t.hid,.str t.name,slD 2 encL t.levels,slD 6 encT (lentK t)],(D.agg [.int .i64 (t).form,.int .i64 (t).n,.bool (t).hid,.str (t).name,slD 2 encL (t).levels,slD 6 encT (t).kids])] (cF Try.prog 18) = .ok (.bool true) m h := wStay t nt
  have c4 : ∀ m h,Gd m h → callFn (LX (cF Try.prog)) m h [(D.agg [.int .i64 (t).form,.int .i64 (t).n,.bool (t).hid,.str (t).name,slD 2 encL (t).levels,slD 6 encT (t).kids])] (cF Try.prog 27) = .ok (.int .i64 (checkT t.abs)) m h := rCheck t st
  have c5 : ∀ m h,Gd m h → callFn (LX (cF Try.prog)) m h [(D.agg [.int .i64 (t).form,.int .i64 (t).n,.bool (t).hid,.str (t).name,slD 2 encL (t).levels,slD 6 encT (t).kids])] (cF Try.prog 25) = .ok (.int .i64 (sizeV t.abs)) m h := pSize t st
  have c6 : ∀ m h,Gd m h → callFn (LX (cF Try.prog)) m h [(D.agg [.int .i64 (t).form,.int .i64 (t).n,.bool (t).hid,.str (t).name,slD 2 encL (t).levels,slD 6 encT (t).kids])] (cF Try.prog 24) = .ok (.int .i64 (sizeV t.abs)) m h := rSize t st
  have c7 : ∀ m h,Gd m h → callFn (LX (cF Try.prog)) m h [(D.agg [.int .i64 (t).form,.int .i64 (t).n,.bool (t).hid,.str (t).name,slD 2 encL (t).levels,slD 6 encT (t).kids])] (cF Try.prog 37) = .ok (.int .i64 (freeC t.abs)) m h := tFree t st wt
  have c8 : ∀ m h,Gd m h → callFn (LX (cF Try.prog)) m h [(D.agg [.int .i64 (t).form,.int .i64 (t).n,.bool (t).hid,.str (t).name,slD 2 encL (t).levels,slD 6 encT (t).kids])] (cF Try.prog 38) = .ok (.int .i64 (freeC t.abs)) m h := rFreeT t st wt
  have c9 : ∀ m h,Gd m h → callFn (LX (cF Try.prog)) m h [(D.agg [.int .i64 (t).form,.int .i64 (t).n,.bool (t).hid,.str (t).name,slD 2 encL (t).levels,slD 6 encT (t).kids]),.str nm] (cF Try.prog 39) = .ok (.bool (hasC nm t.abs)) m h := tHas t st wt nm
  have c10 : ∀ m h,Gd m h → callFn (LX (cF Try.prog)) m h [(D.agg [.int .i64 (t).form,.int .i64 (t).n,.bool (t).hid,.str (t).name,slD 2 encL (t).levels,slD 6 encT (t).kids]),.str nm] (cF Try.prog 40) = .ok (.bool (hasC nm t.abs)) m h := rHasT t st wt nm
  have cN : ∀ m h a,Gd m h → callFn (LX (cF Try.prog)) m h [.int .i64 a] (cF Try.prog 19) = .ok (.int .i64 a) m h := fun m h a hg => numW m h hg a
  have hb : (hasC nm t.abs == hasC nm t.abs) = true := beq_self_eq_true _
  generalize checkT t.abs = C at c2 c4
  generalize sizeV t.abs = Z at c5 c6
  generalize freeC t.abs = W at c7 c8
  generalize hasC nm t.abs = Y at c9 c10 hb
  simp (disch:=first|assumption|omega|(simp (disch:=first|assumption|omega) only [sB,Nat.reduceAdd,Nat.reduceLT,Nat.reduceLeDiff,Nat.reduceEqDiff,Nat.reduceMul,↓reduceIte,hG,gd_nil,gd_tmf];done)|fail) only [sA,↓reduceIte,Nat.reduceLT,Nat.reduceEqDiff,Nat.reduceAdd,Nat.reduceLeDiff,aliveX,hx,F0,c1,c2,c3,c4,c5,c6,c7,c8,c9,c10,cN,hb,same_int,keys_gd,hG,gd_nil,gd_tmf]
  exact ⟨_,_,rfl⟩
end Go.Proofs.Ytdijijblccmfbaa
