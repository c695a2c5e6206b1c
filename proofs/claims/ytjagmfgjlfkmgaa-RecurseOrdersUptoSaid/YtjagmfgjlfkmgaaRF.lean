/- RecurseFinds: by which argument all calls become smaller, or that there is none: the program's answer is the reference's, for all calls that hold together at most 1048576 values and letters. -/
import Derived.Test.YtjagmfgjlfkmgaaRV
import Derived.Test.YtjagmfgjlfkmgaaA39
import Derived.Test.YtjagmfgjlfkmgaaTR
import Derived.OpenShut
import Derived.JoinedCond
set_option linter.unusedSimpArgs false
set_option linter.unusedVariables false
namespace Go.Proofs.Ytjagmfgjlfkmgaa
open Go Go.ChangeShapes Go.WideShapes Go.ChangeAt Go.RowKit

theorem sizePs_all {H : Type} {l : List Pat} {m : List (DataW H)} (h : All2 (fun p y => sizeP p ≤ Rows.uptoBulk y) l m) : sizePs l ≤ Rows.uptoBulkAll m := by
  induction h with
  | nil => rw [sizePs]; exact Nat.zero_le _
  | cons h1 _ ih => rw [sizePs_cons, bulk_cons]; omega
theorem pat_arg {H : Type} : ∀ (f : Nat) (x : DataW H), Fit Go.Proofs.Try.prog f 36 x → ∃ p, dVal Go.Proofs.Try.prog f 36 x = encP p ∧ sizeP p ≤ Rows.uptoBulk x := by
  intro f
  induction f using Nat.strongRecOn with
  | _ f ih =>
  intro x h
  obtain ⟨g, a, b, c, rfl, rfl, h1, h2, h3, h4⟩ := struct3 Go.Proofs.Try.underlying36 h
  obtain ⟨i, e1, _⟩ := int_arg Go.Proofs.Try.underlying3 h1
  obtain ⟨l, rfl, e2, _⟩ := str_arg Go.Proofs.Try.underlying9 h2
  obtain ⟨s, e3, _, h5⟩ := slice_arg (k := 3) (enc := encP) (R := fun p y => sizeP p ≤ Rows.uptoBulk y) Go.Proofs.Try.underlying28 (by kernel_rfl) h3 (fun g' y hg hy => ih g' (by omega) y hy)
  refine ⟨.mk i (l.map UInt8.toNat) s.nil s.full s.el s.sp, ?_, ?_⟩
  · rw [h4, encP_eq]
    show D.agg (cells (dVal _ g 3 a) ++ (cells (dVal _ g 9 _) ++ cells (dVal _ g 28 c))) = _
    rw [e1, e2, e3, cells_int, cells_str, cells_slD]
    rfl
  · rw [sizeP_eq]
    show 1 + sizePs s.el ≤ _
    rw [bulk_agg, bulk_cons, bulk_cons, bulk_cons, bulk_nil]
    rcases h5 with ⟨rfl, h6, _⟩ | ⟨es, sp, rfl, h6, _⟩
    · rw [h6, sizePs]; have := bulk_one a; omega
    · have := sizePs_all h6
      rw [bulk_slice]
      omega
theorem cal_arg {H : Type} (f : Nat) (x : DataW H) (h : Fit Go.Proofs.Try.prog f 31 x) : ∃ c, dVal Go.Proofs.Try.prog f 31 x = encC c ∧ sizePs c.frm.el ≤ Rows.uptoBulk x := by
  obtain ⟨g, a, b, rfl, rfl, h1, h2, h4⟩ := struct2 Go.Proofs.Try.underlying31 h
  obtain ⟨s, e1, _, h5⟩ := slice_arg (k := 3) (enc := encP) (R := fun p y => sizeP p ≤ Rows.uptoBulk y) Go.Proofs.Try.underlying28 (by kernel_rfl) h1 (fun g' y _ hy => pat_arg g' y hy)
  obtain ⟨s2, e2, _, _⟩ := slice_arg (k := 1) (enc := encI) (R := fun _ _ => True) Go.Proofs.Try.underlying29 (by kernel_rfl) h2 (fun g' y _ hy => by
    obtain ⟨i, e, _⟩ := int_arg Go.Proofs.Try.underlying3 hy
    exact ⟨i, e, trivial⟩)
  refine ⟨⟨s, s2⟩, ?_, ?_⟩
  · rw [h4]
    show D.agg (cells (dVal _ g 28 a) ++ cells (dVal _ g 29 b)) = _
    rw [e1, e2, cells_slD, cells_slD]
    rfl
  · rw [bulk_agg, bulk_cons, bulk_cons, bulk_nil]
    show sizePs s.el ≤ _
    rcases h5 with ⟨rfl, h6, _⟩ | ⟨es, sp, rfl, h6, _⟩
    · rw [h6, sizePs]; exact Nat.zero_le _
    · have := sizePs_all h6
      rw [bulk_slice]
      omega
theorem cals_arg {H : Type} (f : Nat) (x : DataW H) (h : Fit Go.Proofs.Try.prog f 22 x) (hb : Rows.uptoBulk x ≤ 1048576) : ∃ s, dVal Go.Proofs.Try.prog f 22 x = slD 2 encC s ∧ s.el.length < 1000000000 ∧ Fewer 1000000000 s.el := by
  obtain ⟨s, e1, _, h5⟩ := slice_arg (k := 2) (enc := encC) (R := fun c y => sizePs c.frm.el ≤ Rows.uptoBulk y) Go.Proofs.Try.underlying22 (by kernel_rfl) h (fun g' y _ hy => cal_arg g' y hy)
  refine ⟨s, e1, ?_⟩
  rcases h5 with ⟨rfl, h6, _⟩ | ⟨es, sp, rfl, h6, _⟩
  · rw [h6]
    exact ⟨by simp, fun c hc => by cases hc⟩
  · rw [bulk_slice] at hb
    have h7 := bulk_len es
    refine ⟨by rw [h6.len]; omega, fun c hc => ?_⟩
    obtain ⟨y, hy, h8⟩ := h6.mem c hc
    have := bulk_mem hy
    omega

theorem alive_run : callFn (LX (cF Go.Proofs.Try.prog)) 2 [] [] (cF Go.Proofs.Try.prog 17) = .ok (.bool true) 2 [] := by
  have h : callFn (exec (tR.look (cF Go.Proofs.Try.prog)) 1000) 2 [] [] (tR.look (cF Go.Proofs.Try.prog) 17) = .ok (.bool true) 2 [] := by kernel_rfl
  rw [Tb.look_eq tR_ok] at h
  exact callFn_LX _ h

theorem findD_shape (cs : List Cal) (a : Int) : ∃ k t, findD cs a = .tup [.int .i64 k, .bool t] := by
  unfold findD
  split
  · split
    · exact ⟨_, _, rfl⟩
    · exact ⟨_, _, rfl⟩
  · exact ⟨_, _, rfl⟩

theorem rf_run (s : Sl Cal) (a : Int) (hl : s.el.length < 1000000000) (hf : Fewer 1000000000 s.el) : ∃ n' h', callFn (LX (cF Go.Proofs.Try.prog)) 0 [] [slD 2 encC s, .int .i64 a] (cF Go.Proofs.Try.prog 3) = .ok (.bool true) n' h' := by
  have hg : ∀ n k, n ≤ k → GoodAt k [] := fun _ _ _ => good_nil
  obtain ⟨b, hb⟩ := lawBig s hf
  have hbig : ∀ n, callFn (LX (cF Go.Proofs.Try.prog)) n [] [slD 2 encC s] (cF Go.Proofs.Try.prog 18) = .ok (.bool b) n [] := fun n => hb n [] (hg n)
  have hf1 : ∀ n, callFn (LX (cF Go.Proofs.Try.prog)) n [] [slD 2 encC s, .int .i64 a] (cF Go.Proofs.Try.prog 19) = .ok (findD s.el a) n [] := fun n => recFind s a n [] hl hf (hg n)
  have hf2 : ∀ n, callFn (LX (cF Go.Proofs.Try.prog)) n [] [slD 2 encC s, .int .i64 a] (cF Go.Proofs.Try.prog 20) = .ok (findD s.el a) n [] := fun n => refFind s a n [] hl hf (hg n)
  obtain ⟨k, t, hk⟩ := findD_shape s.el a
  rw [hk] at hf1 hf2
  rw [f3_eq]
  unfold c3
  rw [callFn_eq (by rfl)]
  cases b with
  | true =>
    simp (disch := first | assumption | omega | (simp (disch := first | assumption | omega) only [sB, Nat.reduceAdd, Nat.reduceLT, Nat.reduceLeDiff, Nat.reduceEqDiff, Nat.reduceMul, ↓reduceIte]; done) | fail) only [sA, ↓reduceIte, Nat.reduceLT, Nat.reduceEqDiff, Nat.reduceAdd, Nat.reduceLeDiff, alive_run, hbig]
    exact ⟨_, _, rfl⟩
  | false =>
    have loop : ∀ (j i : Nat) (e : Tr) (n' : Nat), s.el.length - i = j → i ≤ s.el.length → get (po 0) e = slD 2 encC s → get (po 7) e = .int .i64 k → get (po 9) e = .int .i64 k → get (po 8) e = .bool t → get (po 10) e = .bool t → get (po 11) e = .int .i64 (i : Int) →
        ∃ e2 n2, LX (cF Go.Proofs.Try.prog) (.loop l3_0) e n' [] = .ok (.exit 0) e2 n2 [] ∧ get (po 7) e2 = .int .i64 k ∧ get (po 9) e2 = .int .i64 k ∧ get (po 8) e2 = .bool t ∧ get (po 10) e2 = .bool t := by
      intro j
      induction j with
      | zero =>
        intro i e n' hj hi h0 h7 h9 h8 h10 h11
        obtain ⟨e1, n1, hb, g7, g9, g8, g10⟩ : ∃ e1 n1, LX (cF Go.Proofs.Try.prog) l3_0 e n' [] = .ok (.exit 0) e1 n1 [] ∧ get (po 7) e1 = .int .i64 k ∧ get (po 9) e1 = .int .i64 k ∧ get (po 8) e1 = .bool t ∧ get (po 10) e1 = .bool t := by
          unfold l3_0
          simp (disch := first | assumption | omega | (simp (disch := first | assumption | omega) only [sB, Nat.reduceAdd, Nat.reduceLT, Nat.reduceLeDiff, Nat.reduceEqDiff, Nat.reduceMul, ↓reduceIte]; done) | fail) only [sA, ↓reduceIte, Nat.reduceLT, Nat.reduceEqDiff, Nat.reduceAdd, Nat.reduceLeDiff, h0, h11]
          exact ⟨_, _, rfl, by simp (disch := first | assumption | omega | (simp (disch := first | assumption | omega) only [sB, Nat.reduceAdd, Nat.reduceLT, Nat.reduceLeDiff, Nat.reduceEqDiff, Nat.reduceMul, ↓reduceIte]; done) | fail) only [sA, ↓reduceIte, Nat.reduceLT, Nat.reduceEqDiff, Nat.reduceAdd, Nat.reduceLeDiff, h7], by simp (disch := first | assumption | omega | (simp (disch := first | assumption | omega) only [sB, Nat.reduceAdd, Nat.reduceLT, Nat.reduceLeDiff, Nat.reduceEqDiff, Nat.reduceMul, ↓reduceIte]; done) | fail) only [sA, ↓reduceIte, Nat.reduceLT, Nat.reduceEqDiff, Nat.reduceAdd, Nat.reduceLeDiff, h9], by simp (disch := first | assumption | omega | (simp (disch := first | assumption | omega) only [sB, Nat.reduceAdd, Nat.reduceLT, Nat.reduceLeDiff, Nat.reduceEqDiff, Nat.reduceMul, ↓reduceIte]; done) | fail) only [sA, ↓reduceIte, Nat.reduceLT, Nat.reduceEqDiff, Nat.reduceAdd, Nat.reduceLeDiff, h8], by simp (disch := first | assumption | omega | (simp (disch := first | assumption | omega) only [sB, Nat.reduceAdd, Nat.reduceLT, Nat.reduceLeDiff, Nat.reduceEqDiff, Nat.reduceMul, ↓reduceIte]; done) | fail) only [sA, ↓reduceIte, Nat.reduceLT, Nat.reduceEqDiff, Nat.reduceAdd, Nat.reduceLeDiff, h10]⟩
        exact ⟨e1, n1, loop_exit hb, g7, g9, g8, g10⟩
      | succ j ihj =>
        intro i e n' hj hi h0 h7 h9 h8 h10 h11
        have hlt : i < s.el.length := by omega
        have hfc := hf s.el[i] (List.getElem_mem hlt)
        have c1 : ∀ m, callFn (LX (cF Go.Proofs.Try.prog)) m [] [slD 3 encP s.el[i].frm] (cF Go.Proofs.Try.prog 21) = .ok (.int .i64 (varPs s.el[i].frm.el : Nat)) m [] := fun m => recVars _ _ _ hfc (hg m)
        have c2 : ∀ m, callFn (LX (cF Go.Proofs.Try.prog)) m [] [slD 3 encP s.el[i].frm] (cF Go.Proofs.Try.prog 22) = .ok (.int .i64 (varPs s.el[i].frm.el : Nat)) m [] := fun m => refVars _ _ _ _ (Nat.le_refl _) hfc (hg m)
        obtain ⟨e1, n1, hb, g0, g7, g9, g8, g10, g11⟩ : ∃ e1 n1, LX (cF Go.Proofs.Try.prog) l3_0 e n' [] = .ok .normal e1 n1 [] ∧ get (po 0) e1 = slD 2 encC s ∧ get (po 7) e1 = .int .i64 k ∧ get (po 9) e1 = .int .i64 k ∧ get (po 8) e1 = .bool t ∧ get (po 10) e1 = .bool t ∧ get (po 11) e1 = .int .i64 ((i + 1 : Nat) : Int) := by
          unfold l3_0
          simp (disch := first | assumption | omega | (simp (disch := first | assumption | omega) only [sB, Nat.reduceAdd, Nat.reduceLT, Nat.reduceLeDiff, Nat.reduceEqDiff, Nat.reduceMul, ↓reduceIte]; done) | fail) only [sA, ↓reduceIte, Nat.reduceLT, Nat.reduceEqDiff, Nat.reduceAdd, Nat.reduceLeDiff, h0, h11, encC, c1, c2]
          exact ⟨_, _, rfl, by simp (disch := first | assumption | omega | (simp (disch := first | assumption | omega) only [sB, Nat.reduceAdd, Nat.reduceLT, Nat.reduceLeDiff, Nat.reduceEqDiff, Nat.reduceMul, ↓reduceIte]; done) | fail) only [sA, ↓reduceIte, Nat.reduceLT, Nat.reduceEqDiff, Nat.reduceAdd, Nat.reduceLeDiff, h0], by simp (disch := first | assumption | omega | (simp (disch := first | assumption | omega) only [sB, Nat.reduceAdd, Nat.reduceLT, Nat.reduceLeDiff, Nat.reduceEqDiff, Nat.reduceMul, ↓reduceIte]; done) | fail) only [sA, ↓reduceIte, Nat.reduceLT, Nat.reduceEqDiff, Nat.reduceAdd, Nat.reduceLeDiff, h7], by simp (disch := first | assumption | omega | (simp (disch := first | assumption | omega) only [sB, Nat.reduceAdd, Nat.reduceLT, Nat.reduceLeDiff, Nat.reduceEqDiff, Nat.reduceMul, ↓reduceIte]; done) | fail) only [sA, ↓reduceIte, Nat.reduceLT, Nat.reduceEqDiff, Nat.reduceAdd, Nat.reduceLeDiff, h9], by simp (disch := first | assumption | omega | (simp (disch := first | assumption | omega) only [sB, Nat.reduceAdd, Nat.reduceLT, Nat.reduceLeDiff, Nat.reduceEqDiff, Nat.reduceMul, ↓reduceIte]; done) | fail) only [sA, ↓reduceIte, Nat.reduceLT, Nat.reduceEqDiff, Nat.reduceAdd, Nat.reduceLeDiff, h8], by simp (disch := first | assumption | omega | (simp (disch := first | assumption | omega) only [sB, Nat.reduceAdd, Nat.reduceLT, Nat.reduceLeDiff, Nat.reduceEqDiff, Nat.reduceMul, ↓reduceIte]; done) | fail) only [sA, ↓reduceIte, Nat.reduceLT, Nat.reduceEqDiff, Nat.reduceAdd, Nat.reduceLeDiff, h10], by simp (disch := first | assumption | omega | (simp (disch := first | assumption | omega) only [sB, Nat.reduceAdd, Nat.reduceLT, Nat.reduceLeDiff, Nat.reduceEqDiff, Nat.reduceMul, ↓reduceIte]; done) | fail) only [sA, ↓reduceIte, Nat.reduceLT, Nat.reduceEqDiff, Nat.reduceAdd, Nat.reduceLeDiff]⟩
        obtain ⟨e2, n2, hb2, k7, k9, k8, k10⟩ := ihj (i + 1) e1 n1 (by omega) (by omega) g0 g7 g9 g8 g10 g11
        exact ⟨e2, n2, by rw [loop_next hb, hb2], k7, k9, k8, k10⟩
    obtain ⟨E, N, hE⟩ := skol (P := fun e n => get (po 0) e = slD 2 encC s ∧ get (po 7) e = .int .i64 k ∧ get (po 9) e = .int .i64 k ∧ get (po 8) e = .bool t ∧ get (po 10) e = .bool t ∧ get (po 11) e = .int .i64 ((0 : Nat) : Int)) (fun e n hp => loop s.el.length 0 e n rfl (Nat.zero_le _) hp.1 hp.2.1 hp.2.2.1 hp.2.2.2.1 hp.2.2.2.2.1 hp.2.2.2.2.2)
    have hL := fun e n h0 h7 h9 h8 h10 h11 => (hE e n ⟨h0, h7, h9, h8, h10, h11⟩).1
    have k7 := fun e n h0 h7 h9 h8 h10 h11 => (hE e n ⟨h0, h7, h9, h8, h10, h11⟩).2.1
    have k9 := fun e n h0 h7 h9 h8 h10 h11 => (hE e n ⟨h0, h7, h9, h8, h10, h11⟩).2.2.1
    have k8 := fun e n h0 h7 h9 h8 h10 h11 => (hE e n ⟨h0, h7, h9, h8, h10, h11⟩).2.2.2.1
    have k10 := fun e n h0 h7 h9 h8 h10 h11 => (hE e n ⟨h0, h7, h9, h8, h10, h11⟩).2.2.2.2
    simp (disch := first | assumption | omega | (simp (disch := first | assumption | omega) only [sB, Nat.reduceAdd, Nat.reduceLT, Nat.reduceLeDiff, Nat.reduceEqDiff, Nat.reduceMul, ↓reduceIte]; done) | fail) only [sA, ↓reduceIte, Nat.reduceLT, Nat.reduceEqDiff, Nat.reduceAdd, Nat.reduceLeDiff, alive_run, hbig, hf1, hf2, hL, k7, k9, k8, k10]
    exact ⟨_, _, rfl⟩

set_option maxRecDepth 100000 in
theorem rf_lifted (os : Os) (started : os.Started) (H : Type) (enc : TypeId × Value → H) (F : Stop.Interp) :
    ReturnsInHanded {} Go.Proofs.Try.checked os 3 .any ((Rows.OpenSpec.upto Rows.recurseFindsSpec).pre6 enc Go.Proofs.Try.prog Go.Proofs.Try.f3 Rows.recurseFindsUptoRow.domain false) (((Rows.OpenSpec.upto Rows.recurseFindsSpec).at F).post enc Go.Proofs.Try.prog Go.Proofs.Try.f3 false true false false) := by
  refine law_cond (C := Go.Proofs.Try.checked) (s := Rows.OpenSpec.upto Rows.recurseFindsSpec) (k := Rows.uptoSmall) (tb := 4) rfl own started (by kernel_rfl) Go.Proofs.Try.func3
    (OpenSpec.witness (enc := enc) (C := Go.Proofs.Try.checked) (s := Rows.OpenSpec.upto Rows.recurseFindsSpec) (k := Rows.uptoSmall) rfl false ⟨#[], #[.slice none 0 0, .int .i64 0], []⟩ 8 (by kernel_rfl) (by kernel_rfl) (by kernel_rfl)
      (x := ([.nil, .lit (.int .i64 0)], [], [])) (by kernel_rfl) rfl (by kernel_rfl))
    mixed laidOut rowed_maps full_slices (by kernel_rfl) rfl (by kernel_rfl) rfl rfl ?_ ?_
  · intro ds hl
    match ds, hl with
    | [_, _], _ => rfl
  · intro ds gs l hk hA
    have hA : ArgsAre Go.Proofs.Try.prog [22, 3] ds l := hA
    have hb : Rows.uptoBulkAll (ds ++ gs) ≤ 1048576 := of_decide_eq_true hk
    obtain ⟨x, xs, f, l1, rfl, rfl, h1, hA⟩ := args_cons hA
    obtain ⟨y, g, rfl, h2⟩ := args_one hA
    obtain ⟨n, e2, _⟩ := int_arg (k := .i64) (by kernel_rfl) h2
    rw [List.cons_append, bulk_cons] at hb
    obtain ⟨s, e1, hl, hf⟩ := cals_arg _ _ h1 (by omega)
    rw [e1, e2]
    exact rf_run s n hl hf

theorem RecurseFindsUpto_holds : Rows.RecurseFindsUptoSaid :=
  OpenClaim.holds_of_cond 3 Go.Proofs.Try.f3 rfl rfl rfl rfl rfl rfl rfl ⟨rfl, rfl, rfl, rfl, rfl⟩ rfl rfl rfl rfl rfl (by kernel_rfl) Go.Proofs.Try.func3 (by kernel_rfl)
    (of_decide_eq_true (by kernel_rfl)) (by unfold Func.isWrapper; first | (rw [if_pos (by decide +kernel)]; kernel_rfl) | (rw [if_neg (by decide +kernel)]; exact ⟨rfl, rfl⟩))
    (fun os started H enc _ F => rf_lifted os started H enc F)
end Go.Proofs.Ytjagmfgjlfkmgaa
