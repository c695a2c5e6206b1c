/- Parts, the look for what is too big, and what is kept of a row. No condition. -/
import Derived.Test.YtjagmfgjlfkmgaaRS
set_option linter.unusedSimpArgs false
set_option linter.unusedVariables false
namespace Go.Proofs.Ytjagmfgjlfkmgaa
open Go

/-- the reference counts parts, up to some most: some number, no greater than there are -/
theorem refParts (M : Int) : ∀ (m : Nat) (s : Sl Pat), sizePs s.el ≤ m → m < 1000000000 → ∃ v : Nat, v ≤ sizePs s.el ∧ ∀ (n : Nat) (h : Hps), (∀ k, n ≤ k → GoodAt k h) →
    callFn (LX (cF Go.Proofs.Try.prog)) n h [slD 3 encP s, .int .i64 M] (cF Go.Proofs.Try.prog 56) = .ok (.int .i64 (v : Int)) n h := by
  intro m
  induction m using Nat.strongRecOn with
  | _ m ih =>
  intro s hm hm1
  have loop : ∀ (j i acc : Nat), s.el.length - i = j → i ≤ s.el.length → acc + sizePs (s.el.drop i) ≤ sizePs s.el → ∃ v : Nat, v ≤ sizePs s.el ∧ ∀ (e : Tr) (n : Nat) (h : Hps), get (po 0) e = slD 3 encP s → get (po 1) e = .int .i64 M → get (po 5) e = .int .i64 (acc : Int) → get (po 6) e = .int .i64 (i : Int) → (∀ k, n ≤ k → GoodAt k h) →
      ∃ e' n', LX (cF Go.Proofs.Try.prog) (.loop l56_0) e n h = .ok (.exit 0) e' n' h ∧ get (po 5) e' = .int .i64 (v : Int) := by
    intro j
    induction j with
    | zero =>
      intro i acc hj hi hacc
      refine ⟨acc, by omega, fun e n h h0 h1 h5 h6 hg => ?_⟩
      obtain ⟨e1, n1, hb, g1⟩ : ∃ e1 n1, LX (cF Go.Proofs.Try.prog) l56_0 e n h = .ok (.exit 0) e1 n1 h ∧ get (po 5) e1 = .int .i64 (acc : Int) := by
        unfold l56_0
        simp (disch := first | assumption | omega | (simp (disch := first | assumption | omega) only [sB, Nat.reduceAdd, Nat.reduceLT, Nat.reduceLeDiff, Nat.reduceEqDiff, Nat.reduceMul, ↓reduceIte]; done) | fail) only [sA, ↓reduceIte, Nat.reduceLT, Nat.reduceEqDiff, Nat.reduceAdd, Nat.reduceLeDiff, h0, h1, h5, h6]
        exact ⟨_, _, rfl, by simp (disch := first | assumption | omega | (simp (disch := first | assumption | omega) only [sB, Nat.reduceAdd, Nat.reduceLT, Nat.reduceLeDiff, Nat.reduceEqDiff, Nat.reduceMul, ↓reduceIte]; done) | fail) only [sA, ↓reduceIte, Nat.reduceLT, Nat.reduceEqDiff, Nat.reduceAdd, Nat.reduceLeDiff, h5]⟩
      exact ⟨e1, n1, loop_exit hb, g1⟩
    | succ j ihj =>
      intro i acc hj hi hacc
      have hlt : i < s.el.length := by omega
      have hll := length_le s.el
      have hsd := sizePs_drop hlt
      have hsz := sizePs_nth hlt
      have hs := sizeP_eq s.el[i]
      by_cases hM : (acc : Int) ≤ M
      · obtain ⟨w, hw, hc⟩ := ih (sizePs s.el[i].kids.el) (by omega) s.el[i].kids (Nat.le_refl _) (by omega)
        obtain ⟨v, hv, hr⟩ := ihj (i + 1) (acc + 1 + w) (by omega) (by omega) (by omega)
        refine ⟨v, hv, fun e n h h0 h1 h5 h6 hg => ?_⟩
        have hc' : ∀ k, n ≤ k → callFn (LX (cF Go.Proofs.Try.prog)) k h [slD 3 encP s.el[i].kids, .int .i64 M] (cF Go.Proofs.Try.prog 56) = .ok (.int .i64 (w : Int)) k h := fun k hk => hc k h (fun q hq => hg q (by omega))
        obtain ⟨e1, n1, hb, g0, g1, g5, g6, g7⟩ : ∃ e1 n1, LX (cF Go.Proofs.Try.prog) l56_0 e n h = .ok .normal e1 n1 h ∧ get (po 0) e1 = slD 3 encP s ∧ get (po 1) e1 = .int .i64 M ∧ get (po 5) e1 = .int .i64 ((acc + 1 + w : Nat) : Int) ∧ get (po 6) e1 = .int .i64 ((i + 1 : Nat) : Int) ∧ n ≤ n1 := by
          unfold l56_0
          simp (disch := first | assumption | omega | (simp (disch := first | assumption | omega) only [sB, Nat.reduceAdd, Nat.reduceLT, Nat.reduceLeDiff, Nat.reduceEqDiff, Nat.reduceMul, ↓reduceIte]; done) | fail) only [sA, ↓reduceIte, Nat.reduceLT, Nat.reduceEqDiff, Nat.reduceAdd, Nat.reduceLeDiff, h0, h1, h5, h6, encP_eq, hc']
          exact ⟨_, _, rfl, by simp (disch := first | assumption | omega | (simp (disch := first | assumption | omega) only [sB, Nat.reduceAdd, Nat.reduceLT, Nat.reduceLeDiff, Nat.reduceEqDiff, Nat.reduceMul, ↓reduceIte]; done) | fail) only [sA, ↓reduceIte, Nat.reduceLT, Nat.reduceEqDiff, Nat.reduceAdd, Nat.reduceLeDiff, h0], by simp (disch := first | assumption | omega | (simp (disch := first | assumption | omega) only [sB, Nat.reduceAdd, Nat.reduceLT, Nat.reduceLeDiff, Nat.reduceEqDiff, Nat.reduceMul, ↓reduceIte]; done) | fail) only [sA, ↓reduceIte, Nat.reduceLT, Nat.reduceEqDiff, Nat.reduceAdd, Nat.reduceLeDiff, h1], by simp (disch := first | assumption | omega | (simp (disch := first | assumption | omega) only [sB, Nat.reduceAdd, Nat.reduceLT, Nat.reduceLeDiff, Nat.reduceEqDiff, Nat.reduceMul, ↓reduceIte]; done) | fail) only [sA, ↓reduceIte, Nat.reduceLT, Nat.reduceEqDiff, Nat.reduceAdd, Nat.reduceLeDiff], by simp (disch := first | assumption | omega | (simp (disch := first | assumption | omega) only [sB, Nat.reduceAdd, Nat.reduceLT, Nat.reduceLeDiff, Nat.reduceEqDiff, Nat.reduceMul, ↓reduceIte]; done) | fail) only [sA, ↓reduceIte, Nat.reduceLT, Nat.reduceEqDiff, Nat.reduceAdd, Nat.reduceLeDiff], by omega⟩
        obtain ⟨e2, n2, hb2, k1⟩ := hr e1 n1 h g0 g1 g5 g6 (fun q hq => hg q (by omega))
        exact ⟨e2, n2, by rw [loop_next hb, hb2], k1⟩
      · refine ⟨acc, by omega, fun e n h h0 h1 h5 h6 hg => ?_⟩
        obtain ⟨e1, n1, hb, g1⟩ : ∃ e1 n1, LX (cF Go.Proofs.Try.prog) l56_0 e n h = .ok (.exit 0) e1 n1 h ∧ get (po 5) e1 = .int .i64 (acc : Int) := by
          unfold l56_0
          simp (disch := first | assumption | omega | (simp (disch := first | assumption | omega) only [sB, Nat.reduceAdd, Nat.reduceLT, Nat.reduceLeDiff, Nat.reduceEqDiff, Nat.reduceMul, ↓reduceIte]; done) | fail) only [sA, ↓reduceIte, Nat.reduceLT, Nat.reduceEqDiff, Nat.reduceAdd, Nat.reduceLeDiff, h0, h1, h5, h6]
          exact ⟨_, _, rfl, by simp (disch := first | assumption | omega | (simp (disch := first | assumption | omega) only [sB, Nat.reduceAdd, Nat.reduceLT, Nat.reduceLeDiff, Nat.reduceEqDiff, Nat.reduceMul, ↓reduceIte]; done) | fail) only [sA, ↓reduceIte, Nat.reduceLT, Nat.reduceEqDiff, Nat.reduceAdd, Nat.reduceLeDiff, h5]⟩
        exact ⟨e1, n1, loop_exit hb, g1⟩
  obtain ⟨v, hv, hr⟩ := loop _ 0 0 rfl (Nat.zero_le _) (by simp)
  refine ⟨v, hv, fun n h hg => ?_⟩
  rw [f56_eq]
  unfold c56
  rw [callFn_eq (by rfl)]
  have hgn := hg n (Nat.le_refl _)
  simp (disch := first | assumption | omega | (simp (disch := first | assumption | omega) only [sB, Nat.reduceAdd, Nat.reduceLT, Nat.reduceLeDiff, Nat.reduceEqDiff, Nat.reduceMul, ↓reduceIte]; done) | fail) only [sA, ↓reduceIte, Nat.reduceLT, Nat.reduceEqDiff, Nat.reduceAdd, Nat.reduceLeDiff]
  obtain ⟨e2, n2, hb2, k1⟩ := hr (putT (po 6) (.int .i64 0) (putT (po 5) (.int .i64 0) (putT (po 4) (.int .i64 0) (putT (po 0) (slD 3 encP s) (putT (po 1) (.int .i64 M) .lf))))) (n + 3) h (by simp (disch := first | assumption | omega | (simp (disch := first | assumption | omega) only [sB, Nat.reduceAdd, Nat.reduceLT, Nat.reduceLeDiff, Nat.reduceEqDiff, Nat.reduceMul, ↓reduceIte]; done) | fail) only [sA, ↓reduceIte, Nat.reduceLT, Nat.reduceEqDiff, Nat.reduceAdd, Nat.reduceLeDiff]) (by simp (disch := first | assumption | omega | (simp (disch := first | assumption | omega) only [sB, Nat.reduceAdd, Nat.reduceLT, Nat.reduceLeDiff, Nat.reduceEqDiff, Nat.reduceMul, ↓reduceIte]; done) | fail) only [sA, ↓reduceIte, Nat.reduceLT, Nat.reduceEqDiff, Nat.reduceAdd, Nat.reduceLeDiff]) (by simp (disch := first | assumption | omega | (simp (disch := first | assumption | omega) only [sB, Nat.reduceAdd, Nat.reduceLT, Nat.reduceLeDiff, Nat.reduceEqDiff, Nat.reduceMul, ↓reduceIte]; done) | fail) only [sA, ↓reduceIte, Nat.reduceLT, Nat.reduceEqDiff, Nat.reduceAdd, Nat.reduceLeDiff]) (by simp (disch := first | assumption | omega | (simp (disch := first | assumption | omega) only [sB, Nat.reduceAdd, Nat.reduceLT, Nat.reduceLeDiff, Nat.reduceEqDiff, Nat.reduceMul, ↓reduceIte]; done) | fail) only [sA, ↓reduceIte, Nat.reduceLT, Nat.reduceEqDiff, Nat.reduceAdd, Nat.reduceLeDiff]) (fun q hq => hg q (by omega))
  rw [hb2]
  simp (disch := first | assumption | omega | (simp (disch := first | assumption | omega) only [sB, Nat.reduceAdd, Nat.reduceLT, Nat.reduceLeDiff, Nat.reduceEqDiff, Nat.reduceMul, ↓reduceIte]; done) | fail) only [sA, ↓reduceIte, Nat.reduceLT, Nat.reduceEqDiff, Nat.reduceAdd, Nat.reduceLeDiff, k1]

/-- all patterns of calls together have less than this many parts -/
def Fewer (N : Nat) (cs : List Cal) : Prop := ∀ c, c ∈ cs → sizePs c.frm.el < N
theorem lawBig (s : Sl Cal) (hf : Fewer 1000000000 s.el) : ∃ b : Bool, ∀ (n : Nat) (h : Hps), (∀ k, n ≤ k → GoodAt k h) →
    callFn (LX (cF Go.Proofs.Try.prog)) n h [slD 2 encC s] (cF Go.Proofs.Try.prog 18) = .ok (.bool b) n h := by
  by_cases h60 : 60 < s.el.length
  · refine ⟨true, fun n h hg => ?_⟩
    have hgn := hg n (Nat.le_refl _)
    rw [f18_eq]
    unfold c18
    rw [callFn_eq (by rfl)]
    simp (disch := first | assumption | omega | (simp (disch := first | assumption | omega) only [sB, Nat.reduceAdd, Nat.reduceLT, Nat.reduceLeDiff, Nat.reduceEqDiff, Nat.reduceMul, ↓reduceIte]; done) | fail) only [sA, ↓reduceIte, Nat.reduceLT, Nat.reduceEqDiff, Nat.reduceAdd, Nat.reduceLeDiff]
  · have loop : ∀ (j i : Nat), s.el.length - i = j → i ≤ s.el.length → ∃ b : Bool, ∀ (e : Tr) (n : Nat) (h : Hps), get (po 0) e = slD 2 encC s → get (po 3) e = .int .i64 (i : Int) → (∀ k, n ≤ k → GoodAt k h) →
        ∃ x e' n', LX (cF Go.Proofs.Try.prog) (.loop l18_0) e n h = .ok x e' n' h ∧ ((b = false ∧ x = .exit 0) ∨ (b = true ∧ x = .ret ∧ get (po 2) e' = .bool true)) := by
      intro j
      induction j with
      | zero =>
        intro i hj hi
        refine ⟨false, fun e n h h0 h3 hg => ?_⟩
        obtain ⟨e1, n1, hb⟩ : ∃ e1 n1, LX (cF Go.Proofs.Try.prog) l18_0 e n h = .ok (.exit 0) e1 n1 h := by
          unfold l18_0
          simp (disch := first | assumption | omega | (simp (disch := first | assumption | omega) only [sB, Nat.reduceAdd, Nat.reduceLT, Nat.reduceLeDiff, Nat.reduceEqDiff, Nat.reduceMul, ↓reduceIte]; done) | fail) only [sA, ↓reduceIte, Nat.reduceLT, Nat.reduceEqDiff, Nat.reduceAdd, Nat.reduceLeDiff, h0, h3]
          exact ⟨_, _, rfl⟩
        exact ⟨_, e1, n1, loop_exit hb, .inl ⟨rfl, rfl⟩⟩
      | succ j ihj =>
        intro i hj hi
        have hlt : i < s.el.length := by omega
        have hfc := hf s.el[i] (List.getElem_mem hlt)
        by_cases ha : 60 < s.el[i].args.el.length
        · refine ⟨true, fun e n h h0 h3 hg => ?_⟩
          obtain ⟨e1, n1, hb, g2⟩ : ∃ e1 n1, LX (cF Go.Proofs.Try.prog) l18_0 e n h = .ok .ret e1 n1 h ∧ get (po 2) e1 = .bool true := by
            unfold l18_0
            simp (disch := first | assumption | omega | (simp (disch := first | assumption | omega) only [sB, Nat.reduceAdd, Nat.reduceLT, Nat.reduceLeDiff, Nat.reduceEqDiff, Nat.reduceMul, ↓reduceIte]; done) | fail) only [sA, ↓reduceIte, Nat.reduceLT, Nat.reduceEqDiff, Nat.reduceAdd, Nat.reduceLeDiff, h0, h3, encC]
            exact ⟨_, _, rfl, by simp (disch := first | assumption | omega | (simp (disch := first | assumption | omega) only [sB, Nat.reduceAdd, Nat.reduceLT, Nat.reduceLeDiff, Nat.reduceEqDiff, Nat.reduceMul, ↓reduceIte]; done) | fail) only [sA, ↓reduceIte, Nat.reduceLT, Nat.reduceEqDiff, Nat.reduceAdd, Nat.reduceLeDiff]⟩
          exact ⟨_, e1, n1, loop_ret hb, .inr ⟨rfl, rfl, g2⟩⟩
        · obtain ⟨w, hw, hc⟩ := refParts 300 _ s.el[i].frm (Nat.le_refl _) hfc
          by_cases hw3 : 300 < w
          · refine ⟨true, fun e n h h0 h3 hg => ?_⟩
            have hc' : ∀ k, n ≤ k → callFn (LX (cF Go.Proofs.Try.prog)) k h [slD 3 encP s.el[i].frm, .int .i64 300] (cF Go.Proofs.Try.prog 56) = .ok (.int .i64 (w : Int)) k h := fun k hk => hc k h (fun q hq => hg q (by omega))
            obtain ⟨e1, n1, hb, g2⟩ : ∃ e1 n1, LX (cF Go.Proofs.Try.prog) l18_0 e n h = .ok .ret e1 n1 h ∧ get (po 2) e1 = .bool true := by
              unfold l18_0
              simp (disch := first | assumption | omega | (simp (disch := first | assumption | omega) only [sB, Nat.reduceAdd, Nat.reduceLT, Nat.reduceLeDiff, Nat.reduceEqDiff, Nat.reduceMul, ↓reduceIte]; done) | fail) only [sA, ↓reduceIte, Nat.reduceLT, Nat.reduceEqDiff, Nat.reduceAdd, Nat.reduceLeDiff, h0, h3, encC, hc']
              exact ⟨_, _, rfl, by simp (disch := first | assumption | omega | (simp (disch := first | assumption | omega) only [sB, Nat.reduceAdd, Nat.reduceLT, Nat.reduceLeDiff, Nat.reduceEqDiff, Nat.reduceMul, ↓reduceIte]; done) | fail) only [sA, ↓reduceIte, Nat.reduceLT, Nat.reduceEqDiff, Nat.reduceAdd, Nat.reduceLeDiff]⟩
            exact ⟨_, e1, n1, loop_ret hb, .inr ⟨rfl, rfl, g2⟩⟩
          · obtain ⟨b, hb0⟩ := ihj (i + 1) (by omega) (by omega)
            refine ⟨b, fun e n h h0 h3 hg => ?_⟩
            have hc' : ∀ k, n ≤ k → callFn (LX (cF Go.Proofs.Try.prog)) k h [slD 3 encP s.el[i].frm, .int .i64 300] (cF Go.Proofs.Try.prog 56) = .ok (.int .i64 (w : Int)) k h := fun k hk => hc k h (fun q hq => hg q (by omega))
            obtain ⟨e1, n1, hb, g0, g3, g4⟩ : ∃ e1 n1, LX (cF Go.Proofs.Try.prog) l18_0 e n h = .ok .normal e1 n1 h ∧ get (po 0) e1 = slD 2 encC s ∧ get (po 3) e1 = .int .i64 ((i + 1 : Nat) : Int) ∧ n ≤ n1 := by
              unfold l18_0
              simp (disch := first | assumption | omega | (simp (disch := first | assumption | omega) only [sB, Nat.reduceAdd, Nat.reduceLT, Nat.reduceLeDiff, Nat.reduceEqDiff, Nat.reduceMul, ↓reduceIte]; done) | fail) only [sA, ↓reduceIte, Nat.reduceLT, Nat.reduceEqDiff, Nat.reduceAdd, Nat.reduceLeDiff, h0, h3, encC, hc']
              exact ⟨_, _, rfl, by simp (disch := first | assumption | omega | (simp (disch := first | assumption | omega) only [sB, Nat.reduceAdd, Nat.reduceLT, Nat.reduceLeDiff, Nat.reduceEqDiff, Nat.reduceMul, ↓reduceIte]; done) | fail) only [sA, ↓reduceIte, Nat.reduceLT, Nat.reduceEqDiff, Nat.reduceAdd, Nat.reduceLeDiff, h0], by simp (disch := first | assumption | omega | (simp (disch := first | assumption | omega) only [sB, Nat.reduceAdd, Nat.reduceLT, Nat.reduceLeDiff, Nat.reduceEqDiff, Nat.reduceMul, ↓reduceIte]; done) | fail) only [sA, ↓reduceIte, Nat.reduceLT, Nat.reduceEqDiff, Nat.reduceAdd, Nat.reduceLeDiff], by omega⟩
            obtain ⟨x, e2, n2, hb2, k1⟩ := hb0 e1 n1 h g0 g3 (fun q hq => hg q (by omega))
            exact ⟨x, e2, n2, by rw [loop_next hb, hb2], k1⟩
    obtain ⟨b, hb0⟩ := loop _ 0 rfl (Nat.zero_le _)
    refine ⟨b, fun n h hg => ?_⟩
    have hgn := hg n (Nat.le_refl _)
    rw [f18_eq]
    unfold c18
    rw [callFn_eq (by rfl)]
    simp (disch := first | assumption | omega | (simp (disch := first | assumption | omega) only [sB, Nat.reduceAdd, Nat.reduceLT, Nat.reduceLeDiff, Nat.reduceEqDiff, Nat.reduceMul, ↓reduceIte]; done) | fail) only [sA, ↓reduceIte, Nat.reduceLT, Nat.reduceEqDiff, Nat.reduceAdd, Nat.reduceLeDiff]
    obtain ⟨x, e2, n2, hb2, k1⟩ := hb0 _ _ h (show get (po 0) (putT (po 3) (.int .i64 0) (putT (po 6) (.bool false) (putT (po 5) (.int .i64 (s.el.length : Nat)) (putT (po 4) (slD 2 encC s) (putT (po 2) (.bool false) (putT (po 0) (slD 2 encC s) .lf)))))) = _ by simp (disch := first | assumption | omega | (simp (disch := first | assumption | omega) only [sB, Nat.reduceAdd, Nat.reduceLT, Nat.reduceLeDiff, Nat.reduceEqDiff, Nat.reduceMul, ↓reduceIte]; done) | fail) only [sA, ↓reduceIte, Nat.reduceLT, Nat.reduceEqDiff, Nat.reduceAdd, Nat.reduceLeDiff]) (by simp (disch := first | assumption | omega | (simp (disch := first | assumption | omega) only [sB, Nat.reduceAdd, Nat.reduceLT, Nat.reduceLeDiff, Nat.reduceEqDiff, Nat.reduceMul, ↓reduceIte]; done) | fail) only [sA, ↓reduceIte, Nat.reduceLT, Nat.reduceEqDiff, Nat.reduceAdd, Nat.reduceLeDiff]) (fun q hq => hg q (show n ≤ q from by exact Nat.le_trans (Nat.le_add_right n 5) hq))
    rw [hb2]
    rcases k1 with ⟨rfl, rfl⟩ | ⟨rfl, rfl, k2⟩
    · simp (disch := first | assumption | omega | (simp (disch := first | assumption | omega) only [sB, Nat.reduceAdd, Nat.reduceLT, Nat.reduceLeDiff, Nat.reduceEqDiff, Nat.reduceMul, ↓reduceIte]; done) | fail) only [sA, ↓reduceIte, Nat.reduceLT, Nat.reduceEqDiff, Nat.reduceAdd, Nat.reduceLeDiff]
    · simp (disch := first | assumption | omega | (simp (disch := first | assumption | omega) only [sB, Nat.reduceAdd, Nat.reduceLT, Nat.reduceLeDiff, Nat.reduceEqDiff, Nat.reduceMul, ↓reduceIte]; done) | fail) only [sA, ↓reduceIte, Nat.reduceLT, Nat.reduceEqDiff, Nat.reduceAdd, Nat.reduceLeDiff, k2]

/-- what is kept of a row -/
theorem recKept (p : Cal → Bool) (f : D) (s : Sl Cal) (n : Nat) (h : Hps) (hl : s.el.length < 1000000000) (hg : ∀ k, n ≤ k → GoodAt k h)
    (hf : ∀ c, c ∈ s.el → ∀ m h', n ≤ m → Hp n h m h' → callX (cF Go.Proofs.Try.prog) (LX (cF Go.Proofs.Try.prog)) m h' f [.agg [slD 3 encP c.frm, slD 1 encI c.args]] = .ok (.bool (p c)) m h') :
    callFn (LX (cF Go.Proofs.Try.prog)) n h [slD 2 encC s, f] (cF Go.Proofs.Try.prog 57) = .ok (slD 2 encC (Sl.app (s.el.filter p))) n h := by
  have loop : ∀ (j i : Nat) (l : List Cal) (d : D) (e : Tr) (n' : Nat) (h' : Hps), s.el.length - i = j → i ≤ s.el.length → l ++ (s.el.drop i).filter p = s.el.filter p → l.length ≤ i → Hp n h n' h' → Bld 2 encC n l h' d →
      get (po 1) e = f → get (po 5) e = d → get (po 8) e = slD 2 encC s → get (po 9) e = .int .i64 (s.el.length : Nat) → get (po 10) e = .int .i64 (i : Int) →
      ∃ e2 n2 h2 d2, LX (cF Go.Proofs.Try.prog) (.loop l57_0) e n' h' = .ok (.exit 0) e2 n2 h2 ∧ Hp n h n2 h2 ∧ Bld 2 encC n (s.el.filter p) h2 d2 ∧ get (po 5) e2 = d2 := by
    intro j
    induction j with
    | zero =>
      intro i l d e n' h' hj hi hl2 hli H hB h1 h5 h8 h9 h10
      have hdrop : s.el.drop i = [] := List.drop_eq_nil_of_le (by omega)
      rw [hdrop, List.filter_nil, List.append_nil] at hl2
      obtain ⟨e1, n1, hb, g2, g5⟩ : ∃ e1 n1, LX (cF Go.Proofs.Try.prog) l57_0 e n' h' = .ok (.exit 0) e1 n1 h' ∧ n' ≤ n1 ∧ get (po 5) e1 = d := by
        unfold l57_0
        simp (disch := first | assumption | omega | (simp (disch := first | assumption | omega) only [sB, Nat.reduceAdd, Nat.reduceLT, Nat.reduceLeDiff, Nat.reduceEqDiff, Nat.reduceMul, ↓reduceIte]; done) | fail) only [sA, ↓reduceIte, Nat.reduceLT, Nat.reduceEqDiff, Nat.reduceAdd, Nat.reduceLeDiff, h1, h5, h8, h9, h10]
        exact ⟨_, _, rfl, by omega, by simp (disch := first | assumption | omega | (simp (disch := first | assumption | omega) only [sB, Nat.reduceAdd, Nat.reduceLT, Nat.reduceLeDiff, Nat.reduceEqDiff, Nat.reduceMul, ↓reduceIte]; done) | fail) only [sA, ↓reduceIte, Nat.reduceLT, Nat.reduceEqDiff, Nat.reduceAdd, Nat.reduceLeDiff, h5]⟩
      exact ⟨e1, n1, h', d, loop_exit hb, H.mono g2, hl2 ▸ hB, g5⟩
    | succ j ihj =>
      intro i l d e n' h' hj hi hl2 hli H hB h1 h5 h8 h9 h10
      have hlt : i < s.el.length := by omega
      have hdc : s.el.drop i = s.el[i] :: s.el.drop (i + 1) := List.drop_eq_getElem_cons hlt
      have hnn := H.le
      have lowbox : ∀ k, lowO k (.row 2 [.agg [slD 3 encP s.el[i].frm, slD 1 encI s.el[i].args]]) := fun k => lowO_one (lowC k _)
      have Hb : Hp n h (n' + 4) ((n' + 3, .row 2 [.agg [slD 3 encP s.el[i].frm, slD 1 encI s.el[i].args]]) :: h') := H.cons (by omega) (by omega) (fun k _ => lowbox k)
      have hcall : ∀ m, n' + 4 ≤ m → callX (cF Go.Proofs.Try.prog) (LX (cF Go.Proofs.Try.prog)) m ((n' + 3, .row 2 [.agg [slD 3 encP s.el[i].frm, slD 1 encI s.el[i].args]]) :: h') f [.agg [slD 3 encP s.el[i].frm, slD 1 encI s.el[i].args]] = .ok (.bool (p s.el[i])) m ((n' + 3, .row 2 [.agg [slD 3 encP s.el[i].frm, slD 1 encI s.el[i].args]]) :: h') :=
        fun m hm => hf _ (List.getElem_mem hlt) m _ (by omega) (Hb.mono hm)
      have hok : okE 2 (.agg [slD 3 encP s.el[i].frm, slD 1 encI s.el[i].args]) = true := elemC.ok s.el[i]
      have hsz : ((l.map encC).length + 1) * 48 ≤ 140737488355328 := by rw [List.length_map]; omega
      have hsz2 : (l.length + 1) * 48 ≤ 140737488355328 := by omega
      obtain ⟨e1, n1, h1', l1, d1, hb, G, gl, gll, gB, g1, g5, g8, g9, g10⟩ : ∃ e1 n1 h1' l1 d1, LX (cF Go.Proofs.Try.prog) l57_0 e n' h' = .ok .normal e1 n1 h1' ∧ Hp n h n1 h1' ∧ l1 ++ (s.el.drop (i + 1)).filter p = s.el.filter p ∧ l1.length ≤ i + 1 ∧ Bld 2 encC n l1 h1' d1 ∧
          get (po 1) e1 = f ∧ get (po 5) e1 = d1 ∧ get (po 8) e1 = slD 2 encC s ∧ get (po 9) e1 = .int .i64 (s.el.length : Nat) ∧ get (po 10) e1 = .int .i64 ((i + 1 : Nat) : Int) := by
        unfold l57_0
        cases hp : p s.el[i] with
        | false =>
          rw [hdc, List.filter_cons_of_neg (by rw [hp]; exact fun h => by cases h)] at hl2
          rw [hp] at hcall
          simp (disch := first | assumption | omega | (simp (disch := first | assumption | omega) only [sB, Nat.reduceAdd, Nat.reduceLT, Nat.reduceLeDiff, Nat.reduceEqDiff, Nat.reduceMul, ↓reduceIte]; done) | fail) only [sA, ↓reduceIte, Nat.reduceLT, Nat.reduceEqDiff, Nat.reduceAdd, Nat.reduceLeDiff, h1, h5, h8, h9, h10, hcall, encC]
          exact ⟨_, _, _, l, d, rfl, Hb.mono (by omega), hl2, by omega, hB.cons (H.good n' (Nat.le_refl _)) (by omega), by simp (disch := first | assumption | omega | (simp (disch := first | assumption | omega) only [sB, Nat.reduceAdd, Nat.reduceLT, Nat.reduceLeDiff, Nat.reduceEqDiff, Nat.reduceMul, ↓reduceIte]; done) | fail) only [sA, ↓reduceIte, Nat.reduceLT, Nat.reduceEqDiff, Nat.reduceAdd, Nat.reduceLeDiff, h1], by simp (disch := first | assumption | omega | (simp (disch := first | assumption | omega) only [sB, Nat.reduceAdd, Nat.reduceLT, Nat.reduceLeDiff, Nat.reduceEqDiff, Nat.reduceMul, ↓reduceIte]; done) | fail) only [sA, ↓reduceIte, Nat.reduceLT, Nat.reduceEqDiff, Nat.reduceAdd, Nat.reduceLeDiff, h5], by simp (disch := first | assumption | omega | (simp (disch := first | assumption | omega) only [sB, Nat.reduceAdd, Nat.reduceLT, Nat.reduceLeDiff, Nat.reduceEqDiff, Nat.reduceMul, ↓reduceIte]; done) | fail) only [sA, ↓reduceIte, Nat.reduceLT, Nat.reduceEqDiff, Nat.reduceAdd, Nat.reduceLeDiff, h8], by simp (disch := first | assumption | omega | (simp (disch := first | assumption | omega) only [sB, Nat.reduceAdd, Nat.reduceLT, Nat.reduceLeDiff, Nat.reduceEqDiff, Nat.reduceMul, ↓reduceIte]; done) | fail) only [sA, ↓reduceIte, Nat.reduceLT, Nat.reduceEqDiff, Nat.reduceAdd, Nat.reduceLeDiff, h9], by simp (disch := first | assumption | omega | (simp (disch := first | assumption | omega) only [sB, Nat.reduceAdd, Nat.reduceLT, Nat.reduceLeDiff, Nat.reduceEqDiff, Nat.reduceMul, ↓reduceIte]; done) | fail) only [sA, ↓reduceIte, Nat.reduceLT, Nat.reduceEqDiff, Nat.reduceAdd, Nat.reduceLeDiff]⟩
        | true =>
          rw [hdc, List.filter_cons_of_pos hp] at hl2
          rw [hp] at hcall
          have hl3 : (l ++ [s.el[i]]) ++ (s.el.drop (i + 1)).filter p = s.el.filter p := by rw [← hl2]; simp
          rcases hB with ⟨rfl, rfl⟩ | ⟨r, q1, q2, rfl, q4⟩
          · simp (disch := first | assumption | omega | (simp (disch := first | assumption | omega) only [sB, Nat.reduceAdd, Nat.reduceLT, Nat.reduceLeDiff, Nat.reduceEqDiff, Nat.reduceMul, ↓reduceIte]; done) | fail) only [sA, ↓reduceIte, Nat.reduceLT, Nat.reduceEqDiff, Nat.reduceAdd, Nat.reduceLeDiff, h1, h5, h8, h9, h10, hcall, encC]
            exact ⟨_, _, _, [] ++ [s.el[i]], _, rfl, Hb.cons (by omega) (by omega) (fun k _ => show lowO k (.row 2 (([] : List Cal).map encC ++ [encC s.el[i]])) from lowO_map1 (lowC k)), hl3, by simp, Bld.new (enc := encC) (l := []) (x := s.el[i]) (by omega), by simp (disch := first | assumption | omega | (simp (disch := first | assumption | omega) only [sB, Nat.reduceAdd, Nat.reduceLT, Nat.reduceLeDiff, Nat.reduceEqDiff, Nat.reduceMul, ↓reduceIte]; done) | fail) only [sA, ↓reduceIte, Nat.reduceLT, Nat.reduceEqDiff, Nat.reduceAdd, Nat.reduceLeDiff, h1], by simp (disch := first | assumption | omega | (simp (disch := first | assumption | omega) only [sB, Nat.reduceAdd, Nat.reduceLT, Nat.reduceLeDiff, Nat.reduceEqDiff, Nat.reduceMul, ↓reduceIte]; done) | fail) only [sA, ↓reduceIte, Nat.reduceLT, Nat.reduceEqDiff, Nat.reduceAdd, Nat.reduceLeDiff], by simp (disch := first | assumption | omega | (simp (disch := first | assumption | omega) only [sB, Nat.reduceAdd, Nat.reduceLT, Nat.reduceLeDiff, Nat.reduceEqDiff, Nat.reduceMul, ↓reduceIte]; done) | fail) only [sA, ↓reduceIte, Nat.reduceLT, Nat.reduceEqDiff, Nat.reduceAdd, Nat.reduceLeDiff, h8], by simp (disch := first | assumption | omega | (simp (disch := first | assumption | omega) only [sB, Nat.reduceAdd, Nat.reduceLT, Nat.reduceLeDiff, Nat.reduceEqDiff, Nat.reduceMul, ↓reduceIte]; done) | fail) only [sA, ↓reduceIte, Nat.reduceLT, Nat.reduceEqDiff, Nat.reduceAdd, Nat.reduceLeDiff, h9], by simp (disch := first | assumption | omega | (simp (disch := first | assumption | omega) only [sB, Nat.reduceAdd, Nat.reduceLT, Nat.reduceLeDiff, Nat.reduceEqDiff, Nat.reduceMul, ↓reduceIte]; done) | fail) only [sA, ↓reduceIte, Nat.reduceLT, Nat.reduceEqDiff, Nat.reduceAdd, Nat.reduceLeDiff]⟩
          · have hrn := getO_low (H.good n' (Nat.le_refl _)) (show getO h' r ≠ .none by rw [q4]; exact fun h => by cases h)
            simp (disch := first | assumption | omega | (simp (disch := first | assumption | omega) only [sB, Nat.reduceAdd, Nat.reduceLT, Nat.reduceLeDiff, Nat.reduceEqDiff, Nat.reduceMul, ↓reduceIte]; done) | fail) only [sA, ↓reduceIte, Nat.reduceLT, Nat.reduceEqDiff, Nat.reduceAdd, Nat.reduceLeDiff, h1, h5, h8, h9, h10, hcall, q4, encC]
            exact ⟨_, _, _, l ++ [s.el[i]], _, rfl, ((H.del q2).cons (r := n' + 3) (m := n' + 4) (by omega) (by omega) (fun k _ => lowbox k)).cons (by omega) (by omega) (fun k _ => show lowO k (.row 2 (l.map encC ++ [encC s.el[i]])) from lowO_map1 (lowC k)), hl3, by simp; omega, Bld.new (enc := encC) (x := s.el[i]) (by omega), by simp (disch := first | assumption | omega | (simp (disch := first | assumption | omega) only [sB, Nat.reduceAdd, Nat.reduceLT, Nat.reduceLeDiff, Nat.reduceEqDiff, Nat.reduceMul, ↓reduceIte]; done) | fail) only [sA, ↓reduceIte, Nat.reduceLT, Nat.reduceEqDiff, Nat.reduceAdd, Nat.reduceLeDiff, h1], by simp (disch := first | assumption | omega | (simp (disch := first | assumption | omega) only [sB, Nat.reduceAdd, Nat.reduceLT, Nat.reduceLeDiff, Nat.reduceEqDiff, Nat.reduceMul, ↓reduceIte]; done) | fail) only [sA, ↓reduceIte, Nat.reduceLT, Nat.reduceEqDiff, Nat.reduceAdd, Nat.reduceLeDiff], by simp (disch := first | assumption | omega | (simp (disch := first | assumption | omega) only [sB, Nat.reduceAdd, Nat.reduceLT, Nat.reduceLeDiff, Nat.reduceEqDiff, Nat.reduceMul, ↓reduceIte]; done) | fail) only [sA, ↓reduceIte, Nat.reduceLT, Nat.reduceEqDiff, Nat.reduceAdd, Nat.reduceLeDiff, h8], by simp (disch := first | assumption | omega | (simp (disch := first | assumption | omega) only [sB, Nat.reduceAdd, Nat.reduceLT, Nat.reduceLeDiff, Nat.reduceEqDiff, Nat.reduceMul, ↓reduceIte]; done) | fail) only [sA, ↓reduceIte, Nat.reduceLT, Nat.reduceEqDiff, Nat.reduceAdd, Nat.reduceLeDiff, h9], by simp (disch := first | assumption | omega | (simp (disch := first | assumption | omega) only [sB, Nat.reduceAdd, Nat.reduceLT, Nat.reduceLeDiff, Nat.reduceEqDiff, Nat.reduceMul, ↓reduceIte]; done) | fail) only [sA, ↓reduceIte, Nat.reduceLT, Nat.reduceEqDiff, Nat.reduceAdd, Nat.reduceLeDiff]⟩
      obtain ⟨e2, n2, h2, d2, hb2, k1, k2, k3⟩ := ihj (i + 1) l1 d1 e1 n1 h1' (by omega) (by omega) gl gll G gB g1 g5 g8 g9 g10
      exact ⟨e2, n2, h2, d2, by rw [loop_next hb, hb2], k1, k2, k3⟩
  rw [f57_eq]
  unfold c57
  rw [callFn_eq (by rfl)]
  simp (disch := first | assumption | omega | (simp (disch := first | assumption | omega) only [sB, Nat.reduceAdd, Nat.reduceLT, Nat.reduceLeDiff, Nat.reduceEqDiff, Nat.reduceMul, ↓reduceIte]; done) | fail) only [sA, ↓reduceIte, Nat.reduceLT, Nat.reduceEqDiff, Nat.reduceAdd, Nat.reduceLeDiff]
  obtain ⟨e2, n2, h2, d2, hb2, k1, k2, k3⟩ := loop _ 0 [] .nils (putT (po 10) (.int .i64 0) (putT (po 9) (.int .i64 (s.el.length : Nat)) (putT (po 8) (slD 2 encC s) (putT (po 5) .nils (putT (po 4) .nils (putT (po 0) (slD 2 encC s) (putT (po 1) f .lf))))))) (n + 5) h rfl (Nat.zero_le _) (by simp) (by simp) ((Hp.start hg).mono (by omega)) (.inl ⟨rfl, rfl⟩) (by simp (disch := first | assumption | omega | (simp (disch := first | assumption | omega) only [sB, Nat.reduceAdd, Nat.reduceLT, Nat.reduceLeDiff, Nat.reduceEqDiff, Nat.reduceMul, ↓reduceIte]; done) | fail) only [sA, ↓reduceIte, Nat.reduceLT, Nat.reduceEqDiff, Nat.reduceAdd, Nat.reduceLeDiff]) (by simp (disch := first | assumption | omega | (simp (disch := first | assumption | omega) only [sB, Nat.reduceAdd, Nat.reduceLT, Nat.reduceLeDiff, Nat.reduceEqDiff, Nat.reduceMul, ↓reduceIte]; done) | fail) only [sA, ↓reduceIte, Nat.reduceLT, Nat.reduceEqDiff, Nat.reduceAdd, Nat.reduceLeDiff]) (by simp (disch := first | assumption | omega | (simp (disch := first | assumption | omega) only [sB, Nat.reduceAdd, Nat.reduceLT, Nat.reduceLeDiff, Nat.reduceEqDiff, Nat.reduceMul, ↓reduceIte]; done) | fail) only [sA, ↓reduceIte, Nat.reduceLT, Nat.reduceEqDiff, Nat.reduceAdd, Nat.reduceLeDiff]) (by simp (disch := first | assumption | omega | (simp (disch := first | assumption | omega) only [sB, Nat.reduceAdd, Nat.reduceLT, Nat.reduceLeDiff, Nat.reduceEqDiff, Nat.reduceMul, ↓reduceIte]; done) | fail) only [sA, ↓reduceIte, Nat.reduceLT, Nat.reduceEqDiff, Nat.reduceAdd, Nat.reduceLeDiff]) (by simp (disch := first | assumption | omega | (simp (disch := first | assumption | omega) only [sB, Nat.reduceAdd, Nat.reduceLT, Nat.reduceLeDiff, Nat.reduceEqDiff, Nat.reduceMul, ↓reduceIte]; done) | fail) only [sA, ↓reduceIte, Nat.reduceLT, Nat.reduceEqDiff, Nat.reduceAdd, Nat.reduceLeDiff])
  rw [hb2]
  simp (disch := first | assumption | omega | (simp (disch := first | assumption | omega) only [sB, Nat.reduceAdd, Nat.reduceLT, Nat.reduceLeDiff, Nat.reduceEqDiff, Nat.reduceMul, ↓reduceIte]; done) | fail) only [sA, ↓reduceIte, Nat.reduceLT, Nat.reduceEqDiff, Nat.reduceAdd, Nat.reduceLeDiff, k3, finish_bld elemC k2 (k1.mono (Nat.le_add_right n2 2)), finish_bld elemC k2 k1]
end Go.Proofs.Ytjagmfgjlfkmgaa
