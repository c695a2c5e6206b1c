/- RecurseOrders: by which arguments, one after the other, all calls become smaller. The arguments are no larger than the given bound. -/
import Derived.Test.YtjagmfgjlfkmgaaRJ
import Derived.Test.YtjagmfgjlfkmgaaRF
set_option linter.unusedSimpArgs false
set_option linter.unusedVariables false
namespace Go.Proofs.Ytjagmfgjlfkmgaa
open Go Go.ChangeShapes Go.WideShapes Go.ChangeAt Go.RowKit

theorem ord_len (A : Nat) : ∀ (f : Nat) (cs : List Cal) (out l : List Nat), ordL A f cs out = some l → l.length ≤ out.length + f
  | 0, _, out, l, h => by cases h; exact Nat.le_refl _
  | f + 1, cs, out, l, h => by
    unfold ordL at h
    split at h
    · cases h; omega
    · cases e : nextK cs out 0 A with
      | none => rw [e] at h; cases h
      | some k =>
        rw [e] at h
        have := ord_len A f _ _ l h
        rw [List.length_append, List.length_singleton] at this
        omega

set_option maxHeartbeats 4000000 in
theorem ro_run (s : Sl Cal) (a : Int) (hl : s.el.length < 1000000000) (hf : Fewer 1000000000 s.el) : ∃ n' h', callFn (LX (cF Go.Proofs.Try.prog)) 0 [] [slD 2 encC s, .int .i64 a] ((cF Go.Proofs.Try.prog) 4) = .ok (.bool true) n' h' := by
  have hg : ∀ n k, n ≤ k → GoodAt k [] := fun _ _ _ => good_nil
  obtain ⟨b, hb⟩ := lawBig s hf
  have hbig : ∀ n, callFn (LX (cF Go.Proofs.Try.prog)) n [] [slD 2 encC s] (cF Go.Proofs.Try.prog 18) = .ok (.bool b) n [] := fun n => hb n [] (hg n)
  have hf1 : ∀ n, callFn (LX (cF Go.Proofs.Try.prog)) n [] [slD 2 encC s, .int .i64 a] (cF Go.Proofs.Try.prog 23) = .ok (ordD s.el a) n [] := fun n => recOrder s a n [] hl hf (hg n)
  have hf2 : ∀ n, callFn (LX (cF Go.Proofs.Try.prog)) n [] [slD 2 encC s, .int .i64 a] (cF Go.Proofs.Try.prog 24) = .ok (ordD s.el a) n [] := fun n => refOrder s a n [] hl hf (hg n)
  rw [ord_arity] at hf1 hf2
  rw [f4_eq]; unfold c4; rw [callFn_eq (by rfl)]
  cases b with
  | true =>
    simp (disch := first | assumption | omega | (simp (disch := first | assumption | omega) only [sB, Nat.reduceAdd, Nat.reduceLT, Nat.reduceLeDiff, Nat.reduceEqDiff, Nat.reduceMul, ↓reduceIte]; done) | fail) only [sA, ↓reduceIte, Nat.reduceLT, Nat.reduceEqDiff, Nat.reduceAdd, Nat.reduceLeDiff, alive_run, hbig]
    exact ⟨_, _, rfl⟩
  | false =>
    cases hR : ordL (if a > 100 then 0 else a).toNat s.el.length s.el [] with
    | none =>
      rw [hR] at hf1 hf2
      have e : ordR none = .tup [.nils, .bool false] := rfl
      rw [e] at hf1 hf2
      simp (disch := first | assumption | omega | (simp (disch := first | assumption | omega) only [sB, Nat.reduceAdd, Nat.reduceLT, Nat.reduceLeDiff, Nat.reduceEqDiff, Nat.reduceMul, ↓reduceIte]; done) | fail) only [sA, ↓reduceIte, Nat.reduceLT, Nat.reduceEqDiff, Nat.reduceAdd, Nat.reduceLeDiff, alive_run, hbig, hf1, hf2]
      generalize hr : LX (cF Go.Proofs.Try.prog) (.loop l4_0) _ _ _ = r
      obtain ⟨x, e2, n2, h2, rfl, rfl, rfl⟩ := loop_up hr 0
        (fun i e n' h' => h' = [] ∧ get (po 7) e = .nils ∧ get (po 11) e = .int .i64 0)
        (fun x e n' h' => x = .exit 0 ∧ h' = [])
        (by
          rintro e n' h' ⟨rfl, g7, g11⟩
          unfold l4_0
          simp (disch := first | assumption | omega | (simp (disch := first | assumption | omega) only [sB, Nat.reduceAdd, Nat.reduceLT, Nat.reduceLeDiff, Nat.reduceEqDiff, Nat.reduceMul, ↓reduceIte]; done) | fail) only [sA, ↓reduceIte, Nat.reduceLT, Nat.reduceEqDiff, Nat.reduceAdd, Nat.reduceLeDiff, g7, g11]
          exact ⟨_, _, _, _, rfl, by simp, rfl, rfl⟩)
        (fun i e n' h' hi => absurd hi (Nat.not_lt_zero _)) ⟨rfl, by simp (disch := first | assumption | omega | (simp (disch := first | assumption | omega) only [sB, Nat.reduceAdd, Nat.reduceLT, Nat.reduceLeDiff, Nat.reduceEqDiff, Nat.reduceMul, ↓reduceIte]; done) | fail) only [sA, ↓reduceIte, Nat.reduceLT, Nat.reduceEqDiff, Nat.reduceAdd, Nat.reduceLeDiff], by simp (disch := first | assumption | omega | (simp (disch := first | assumption | omega) only [sB, Nat.reduceAdd, Nat.reduceLT, Nat.reduceLeDiff, Nat.reduceEqDiff, Nat.reduceMul, ↓reduceIte]; done) | fail) only [sA, ↓reduceIte, Nat.reduceLT, Nat.reduceEqDiff, Nat.reduceAdd, Nat.reduceLeDiff]⟩
      simp (disch := first | assumption | omega | (simp (disch := first | assumption | omega) only [sB, Nat.reduceAdd, Nat.reduceLT, Nat.reduceLeDiff, Nat.reduceEqDiff, Nat.reduceMul, ↓reduceIte]; done) | fail) only [sA, ↓reduceIte, Nat.reduceLT, Nat.reduceEqDiff, Nat.reduceAdd, Nat.reduceLeDiff]
      exact ⟨_, _, rfl⟩
    | some l =>
      have hll := ord_len _ _ _ _ _ hR
      rw [List.length_nil, Nat.zero_add] at hll
      rw [hR] at hf1 hf2
      have e : ordR (some l) = .tup [slD 1 encK (Sl.app l), .bool true] := rfl
      rw [e] at hf1 hf2
      simp (disch := first | assumption | omega | (simp (disch := first | assumption | omega) only [sB, Nat.reduceAdd, Nat.reduceLT, Nat.reduceLeDiff, Nat.reduceEqDiff, Nat.reduceMul, ↓reduceIte]; done) | fail) only [sA, ↓reduceIte, Nat.reduceLT, Nat.reduceEqDiff, Nat.reduceAdd, Nat.reduceLeDiff, alive_run, hbig, hf1, hf2, app_el]
      generalize hr : LX (cF Go.Proofs.Try.prog) (.loop l4_0) _ _ _ = r
      obtain ⟨x, e2, n2, h2, rfl, rfl, rfl⟩ := loop_up hr l.length
        (fun i e n' h' => h' = [] ∧ get (po 7) e = slD 1 encK (Sl.app l) ∧ get (po 9) e = slD 1 encK (Sl.app l) ∧ get (po 11) e = .int .i64 (i : Nat))
        (fun x e n' h' => x = .exit 0 ∧ h' = [])
        (by
          rintro e n' h' ⟨rfl, g7, g9, g11⟩
          unfold l4_0
          simp (disch := first | assumption | omega | (simp (disch := first | assumption | omega) only [sB, Nat.reduceAdd, Nat.reduceLT, Nat.reduceLeDiff, Nat.reduceEqDiff, Nat.reduceMul, ↓reduceIte]; done) | fail) only [sA, ↓reduceIte, Nat.reduceLT, Nat.reduceEqDiff, Nat.reduceAdd, Nat.reduceLeDiff, g7, g11, app_el]
          exact ⟨_, _, _, _, rfl, by simp, rfl, rfl⟩)
        (by
          rintro i e n' h' hi ⟨rfl, g7, g9, g11⟩
          unfold l4_0
          simp (disch := first | assumption | omega | (simp (disch := first | assumption | omega) only [sB, Nat.reduceAdd, Nat.reduceLT, Nat.reduceLeDiff, Nat.reduceEqDiff, Nat.reduceMul, ↓reduceIte, app_el, hi]; done) | fail) only [sA, ↓reduceIte, Nat.reduceLT, Nat.reduceEqDiff, Nat.reduceAdd, Nat.reduceLeDiff, g7, g9, g11, encK, app_el, hi]
          exact ⟨_, _, _, _, rfl, .inl ⟨rfl, rfl, by simp (disch := first | assumption | omega | (simp (disch := first | assumption | omega) only [sB, Nat.reduceAdd, Nat.reduceLT, Nat.reduceLeDiff, Nat.reduceEqDiff, Nat.reduceMul, ↓reduceIte]; done) | fail) only [sA, ↓reduceIte, Nat.reduceLT, Nat.reduceEqDiff, Nat.reduceAdd, Nat.reduceLeDiff, g7], by simp (disch := first | assumption | omega | (simp (disch := first | assumption | omega) only [sB, Nat.reduceAdd, Nat.reduceLT, Nat.reduceLeDiff, Nat.reduceEqDiff, Nat.reduceMul, ↓reduceIte]; done) | fail) only [sA, ↓reduceIte, Nat.reduceLT, Nat.reduceEqDiff, Nat.reduceAdd, Nat.reduceLeDiff, g9], by simp (disch := first | assumption | omega | (simp (disch := first | assumption | omega) only [sB, Nat.reduceAdd, Nat.reduceLT, Nat.reduceLeDiff, Nat.reduceEqDiff, Nat.reduceMul, ↓reduceIte]; done) | fail) only [sA, ↓reduceIte, Nat.reduceLT, Nat.reduceEqDiff, Nat.reduceAdd, Nat.reduceLeDiff]⟩⟩)
        ⟨rfl, by simp (disch := first | assumption | omega | (simp (disch := first | assumption | omega) only [sB, Nat.reduceAdd, Nat.reduceLT, Nat.reduceLeDiff, Nat.reduceEqDiff, Nat.reduceMul, ↓reduceIte]; done) | fail) only [sA, ↓reduceIte, Nat.reduceLT, Nat.reduceEqDiff, Nat.reduceAdd, Nat.reduceLeDiff], by simp (disch := first | assumption | omega | (simp (disch := first | assumption | omega) only [sB, Nat.reduceAdd, Nat.reduceLT, Nat.reduceLeDiff, Nat.reduceEqDiff, Nat.reduceMul, ↓reduceIte]; done) | fail) only [sA, ↓reduceIte, Nat.reduceLT, Nat.reduceEqDiff, Nat.reduceAdd, Nat.reduceLeDiff], by simp (disch := first | assumption | omega | (simp (disch := first | assumption | omega) only [sB, Nat.reduceAdd, Nat.reduceLT, Nat.reduceLeDiff, Nat.reduceEqDiff, Nat.reduceMul, ↓reduceIte]; done) | fail) only [sA, ↓reduceIte, Nat.reduceLT, Nat.reduceEqDiff, Nat.reduceAdd, Nat.reduceLeDiff]⟩
      simp (disch := first | assumption | omega | (simp (disch := first | assumption | omega) only [sB, Nat.reduceAdd, Nat.reduceLT, Nat.reduceLeDiff, Nat.reduceEqDiff, Nat.reduceMul, ↓reduceIte]; done) | fail) only [sA, ↓reduceIte, Nat.reduceLT, Nat.reduceEqDiff, Nat.reduceAdd, Nat.reduceLeDiff]
      exact ⟨_, _, rfl⟩

set_option maxRecDepth 100000 in
theorem ro_lifted (os : Os) (started : os.Started) (H : Type) (enc : TypeId × Value → H) (F : Stop.Interp) :
    ReturnsInHanded {} Go.Proofs.Try.checked os 4 .any ((Rows.OpenSpec.upto Rows.recurseOrdersSpec).pre6 enc Go.Proofs.Try.prog Go.Proofs.Try.f4 Rows.recurseOrdersUptoRow.domain false) (((Rows.OpenSpec.upto Rows.recurseOrdersSpec).at F).post enc Go.Proofs.Try.prog Go.Proofs.Try.f4 false true false false) := by
  refine law_cond (C := Go.Proofs.Try.checked) (s := Rows.OpenSpec.upto Rows.recurseOrdersSpec) (k := Rows.uptoSmall) (tb := 4) rfl own started (by kernel_rfl) Go.Proofs.Try.func4
    (OpenSpec.witness (enc := enc) (C := Go.Proofs.Try.checked) (s := Rows.OpenSpec.upto Rows.recurseOrdersSpec) (k := Rows.uptoSmall) rfl false ⟨#[], #[.slice none 0 0, .int .i64 0], []⟩ 8 (by kernel_rfl) (by kernel_rfl) (by kernel_rfl)
      (x := ([.nil, .lit (.int .i64 0)], [], [])) (by kernel_rfl) rfl (by kernel_rfl))
    mixed laidOut rowed_maps full_slices (by kernel_rfl) rfl (by kernel_rfl) rfl rfl ?_ ?_
  · intro ds hl
    match ds, hl with
    | [_, _], _ => rfl
  · intro ds gs l hk hA
    have hA : ArgsAre Go.Proofs.Try.prog [22, 3] ds l := hA
    have hb : Rows.uptoBulkAll (ds ++ gs) ≤ 1048576 := of_decide_eq_true hk
    obtain ⟨x, xs, f, l1, rfl, rfl, h1, hA⟩ := args_cons hA
    obtain ⟨y, g, rfl, h2⟩ := args_one hA
    obtain ⟨n, e2, _⟩ := int_arg (k := .i64) (by kernel_rfl) h2
    rw [List.cons_append, bulk_cons] at hb
    obtain ⟨s, e1, hl, hf⟩ := cals_arg _ _ h1 (by omega)
    rw [e1, e2]
    exact ro_run s n hl hf

theorem RecurseOrdersUpto_holds : Rows.RecurseOrdersUptoSaid :=
  OpenClaim.holds_of_cond 4 Go.Proofs.Try.f4 rfl rfl rfl rfl rfl rfl rfl ⟨rfl, rfl, rfl, rfl, rfl⟩ rfl rfl rfl rfl rfl (by kernel_rfl) Go.Proofs.Try.func4 (by kernel_rfl)
    (of_decide_eq_true (by kernel_rfl)) (by unfold Func.isWrapper; first | (rw [if_pos (by decide +kernel)]; kernel_rfl) | (rw [if_neg (by decide +kernel)]; exact ⟨rfl, rfl⟩))
    (fun os started H enc _ F => ro_lifted os started H enc F)
end Go.Proofs.Ytjagmfgjlfkmgaa
