/- What the functions of package recurse tell. No condition. -/
import Derived.Test.YtjagmfgjlfkmgaaRP
set_option linter.unusedSimpArgs false
set_option linter.unusedVariables false
namespace Go.Proofs.Ytjagmfgjlfkmgaa
open Go

structure Cal where
  frm : Sl Pat
  args : Sl Int
def encI (i : Int) : D := .int .i64 i
noncomputable def encC (c : Cal) : D := .agg [slD 3 encP c.frm, slD 1 encI c.args]

theorem low_agg1 {m : Nat} {cs : List D} (hc : cs.all flat1 = true) : low m (.agg cs) := low_flat (by rw [flat_agg]; exact hc)
theorem lowP (m : Nat) (p : Pat) : low m (encP p) := low_flat (by rw [encP_eq]; simp [flat_agg, flat1_slD, flat1_int, flat1_str])
theorem lowC (m : Nat) (c : Cal) : low m (encC c) := low_flat (by unfold encC; simp [flat_agg, flat1_slD])
theorem sizePs_take (l : List Pat) (k : Nat) : sizePs (l.take k) ≤ sizePs l := by
  induction l generalizing k with
  | nil => simp
  | cons p t ih =>
    cases k with
    | zero => simp [sizePs]
    | succ k => rw [List.take_succ_cons, sizePs_cons, sizePs_cons]; have := ih k; omega

/-- the counter's method: what it counts is added to the box -/
theorem allVars : ∀ (m : Nat) (s : Sl Pat) (n : Nat) (h : Hps) (r c : Nat), sizePs s.el ≤ m → m < 1000000000 → c + varPs s.el < 2000000000 → (∀ k, n ≤ k → GoodAt k h) → getO h r = .row 1 [.agg [.int .i64 (c : Int)]] →
    callFn (LX (cF Go.Proofs.Try.prog)) n h [.ptr r 0 0, slD 3 encP s] (cF Go.Proofs.Try.prog 61) = .ok (.tup []) n (setO h r (.row 1 [.agg [.int .i64 ((c + varPs s.el : Nat) : Int)]])) := by
  intro m
  induction m using Nat.strongRecOn with
  | _ m ih =>
  intro s n h r c hm hm1 hc2 hg hr0
  have hrn : r < n := getO_low (hg n (Nat.le_refl _)) (by rw [hr0]; exact fun h => by cases h)
  have lowrow : ∀ (x : Nat) (k : Nat), lowO k (.row 1 [.agg [.int .i64 (x : Int)]]) := fun x k => lowO_one (low_agg1 rfl)
  have loop : ∀ (j i acc : Nat) (e : Tr) (n' : Nat) (h' : Hps), s.el.length - i = j → i ≤ s.el.length → acc + varPs (s.el.drop i) = c + varPs s.el → Hp n (setO h r (.row 1 [.agg [.int .i64 (acc : Int)]])) n' h' → getO h' r = .row 1 [.agg [.int .i64 (acc : Int)]] →
      get (po 0) e = .ptr r 0 0 → get (po 4) e = .fn 61 [.ptr r 0 0] [] → get (po 9) e = slD 3 encP s → get (po 10) e = .int .i64 (s.el.length : Nat) → get (po 11) e = .int .i64 (i : Nat) →
      ∃ e2 n2 h2, LX (cF Go.Proofs.Try.prog) (.loop l61_0) e n' h' = .ok (.exit 0) e2 n2 h2 ∧ Hp n (setO h r (.row 1 [.agg [.int .i64 ((c + varPs s.el : Nat) : Int)]])) n2 h2 := by
    intro j
    induction j with
    | zero =>
      intro i acc e n' h' hj hi hacc H hr h0 h4 h9 h10 h11
      have hdrop : s.el.drop i = [] := List.drop_eq_nil_of_le (by omega)
      rw [hdrop, varPs, Nat.add_zero] at hacc
      obtain ⟨e1, n1, hb, g2⟩ : ∃ e1 n1, LX (cF Go.Proofs.Try.prog) l61_0 e n' h' = .ok (.exit 0) e1 n1 h' ∧ n' ≤ n1 := by
        unfold l61_0
        simp (disch := first | assumption | omega | (simp (disch := first | assumption | omega) only [sB, Nat.reduceAdd, Nat.reduceLT, Nat.reduceLeDiff, Nat.reduceEqDiff, Nat.reduceMul, ↓reduceIte]; done) | fail) only [sA, ↓reduceIte, Nat.reduceLT, Nat.reduceEqDiff, Nat.reduceAdd, Nat.reduceLeDiff, h0, h4, h9, h10, h11]
        exact ⟨_, _, rfl, by omega⟩
      exact ⟨e1, n1, h', loop_exit hb, hacc ▸ H.mono g2⟩
    | succ j ihj =>
      intro i acc e n' h' hj hi hacc H hr h0 h4 h9 h10 h11
      have hlt : i < s.el.length := by omega
      have hvd := varPs_drop hlt
      have hvl := varPs_le s.el
      have hll := length_le s.el
      have hsz := sizePs_nth hlt
      have hle := varP_le s.el[i]
      have hv := varP_eq s.el[i]
      have hs := sizeP_eq s.el[i]
      have hnn := H.le
      obtain ⟨e1, n1, h1, hb, G, gr, g0, g4, g9, g10, g11⟩ : ∃ e1 n1 h1, LX (cF Go.Proofs.Try.prog) l61_0 e n' h' = .ok .normal e1 n1 h1 ∧ Hp n (setO h r (.row 1 [.agg [.int .i64 ((acc + varP s.el[i] : Nat) : Int)]])) n1 h1 ∧ getO h1 r = .row 1 [.agg [.int .i64 ((acc + varP s.el[i] : Nat) : Int)]] ∧
          get (po 0) e1 = .ptr r 0 0 ∧ get (po 4) e1 = .fn 61 [.ptr r 0 0] [] ∧ get (po 9) e1 = slD 3 encP s ∧ get (po 10) e1 = .int .i64 (s.el.length : Nat) ∧ get (po 11) e1 = .int .i64 ((i + 1 : Nat) : Int) := by
        unfold l61_0
        rw [hv]
        have hne : getO h' r ≠ .none := by rw [hr]; exact fun h => by cases h
        have lowbox : ∀ k, lowO k (.row 3 [.agg [.int .i64 s.el[i].form, .str s.el[i].name, slD 3 encP s.el[i].kids]]) := fun k => lowO_one (by rw [← encP_eq]; exact lowP k _)
        have HS : ∀ x : Nat, Hp n (setO h r (.row 1 [.agg [.int .i64 (x : Int)]])) n' (setO h' r (.row 1 [.agg [.int .i64 (x : Int)]])) := by
          intro x
          have := H.setLow hrn (lowrow x n) (fun k _ => lowrow x k)
          rwa [setO_setO] at this
        by_cases f1 : s.el[i].form = 1
        · rw [if_pos f1] at hv ⊢
          have f2 : ¬ s.el[i].form = 2 := by omega
          simp (disch := first | assumption | omega | (simp (disch := first | assumption | omega) only [sB, Nat.reduceAdd, Nat.reduceLT, Nat.reduceLeDiff, Nat.reduceEqDiff, Nat.reduceMul, ↓reduceIte]; done) | fail) only [sA, ↓reduceIte, Nat.reduceLT, Nat.reduceEqDiff, Nat.reduceAdd, Nat.reduceLeDiff, h0, h4, h9, h10, h11, encP_eq, hr]
          exact ⟨_, _, _, rfl, (HS _).cons (r := n' + 3) (by omega) (by omega) (fun k _ => lowbox k), by simp (disch := first | assumption | omega | (simp (disch := first | assumption | omega) only [sB, Nat.reduceAdd, Nat.reduceLT, Nat.reduceLeDiff, Nat.reduceEqDiff, Nat.reduceMul, ↓reduceIte]; done) | fail) only [sA, ↓reduceIte, Nat.reduceLT, Nat.reduceEqDiff, Nat.reduceAdd, Nat.reduceLeDiff, getO_setO_same hne], by simp (disch := first | assumption | omega | (simp (disch := first | assumption | omega) only [sB, Nat.reduceAdd, Nat.reduceLT, Nat.reduceLeDiff, Nat.reduceEqDiff, Nat.reduceMul, ↓reduceIte]; done) | fail) only [sA, ↓reduceIte, Nat.reduceLT, Nat.reduceEqDiff, Nat.reduceAdd, Nat.reduceLeDiff, h0], by simp (disch := first | assumption | omega | (simp (disch := first | assumption | omega) only [sB, Nat.reduceAdd, Nat.reduceLT, Nat.reduceLeDiff, Nat.reduceEqDiff, Nat.reduceMul, ↓reduceIte]; done) | fail) only [sA, ↓reduceIte, Nat.reduceLT, Nat.reduceEqDiff, Nat.reduceAdd, Nat.reduceLeDiff, h4], by simp (disch := first | assumption | omega | (simp (disch := first | assumption | omega) only [sB, Nat.reduceAdd, Nat.reduceLT, Nat.reduceLeDiff, Nat.reduceEqDiff, Nat.reduceMul, ↓reduceIte]; done) | fail) only [sA, ↓reduceIte, Nat.reduceLT, Nat.reduceEqDiff, Nat.reduceAdd, Nat.reduceLeDiff, h9], by simp (disch := first | assumption | omega | (simp (disch := first | assumption | omega) only [sB, Nat.reduceAdd, Nat.reduceLT, Nat.reduceLeDiff, Nat.reduceEqDiff, Nat.reduceMul, ↓reduceIte]; done) | fail) only [sA, ↓reduceIte, Nat.reduceLT, Nat.reduceEqDiff, Nat.reduceAdd, Nat.reduceLeDiff, h10], by simp (disch := first | assumption | omega | (simp (disch := first | assumption | omega) only [sB, Nat.reduceAdd, Nat.reduceLT, Nat.reduceLeDiff, Nat.reduceEqDiff, Nat.reduceMul, ↓reduceIte]; done) | fail) only [sA, ↓reduceIte, Nat.reduceLT, Nat.reduceEqDiff, Nat.reduceAdd, Nat.reduceLeDiff]⟩
        · rw [if_neg f1] at hv ⊢
          by_cases f2 : s.el[i].form = 2
          · rw [if_pos f2] at hv ⊢
            have hc : ∀ k, n' + 4 ≤ k → callFn (LX (cF Go.Proofs.Try.prog)) k ((n' + 3, .row 3 [.agg [.int .i64 s.el[i].form, .str s.el[i].name, slD 3 encP s.el[i].kids]]) :: h') [.ptr r 0 0, slD 3 encP s.el[i].kids] (cF Go.Proofs.Try.prog 61) =
                .ok (.tup []) k (setO ((n' + 3, .row 3 [.agg [.int .i64 s.el[i].form, .str s.el[i].name, slD 3 encP s.el[i].kids]]) :: h') r (.row 1 [.agg [.int .i64 ((acc + varPs s.el[i].kids.el : Nat) : Int)]])) :=
              fun k hk => ih (sizePs s.el[i].kids.el) (by omega) _ _ _ _ _ (Nat.le_refl _) (by omega) (by omega) (fun q hq => good_cons.2 ⟨by omega, lowbox q, H.good q (by omega)⟩) (by rw [getO_tl (by omega), hr])
            simp (disch := first | assumption | omega | (simp (disch := first | assumption | omega) only [sB, Nat.reduceAdd, Nat.reduceLT, Nat.reduceLeDiff, Nat.reduceEqDiff, Nat.reduceMul, ↓reduceIte]; done) | fail) only [sA, ↓reduceIte, Nat.reduceLT, Nat.reduceEqDiff, Nat.reduceAdd, Nat.reduceLeDiff, h0, h4, h9, h10, h11, encP_eq, hr, hc]
            exact ⟨_, _, _, rfl, (HS _).cons (r := n' + 3) (by omega) (by omega) (fun k _ => lowbox k), by simp (disch := first | assumption | omega | (simp (disch := first | assumption | omega) only [sB, Nat.reduceAdd, Nat.reduceLT, Nat.reduceLeDiff, Nat.reduceEqDiff, Nat.reduceMul, ↓reduceIte]; done) | fail) only [sA, ↓reduceIte, Nat.reduceLT, Nat.reduceEqDiff, Nat.reduceAdd, Nat.reduceLeDiff, getO_setO_same hne], by simp (disch := first | assumption | omega | (simp (disch := first | assumption | omega) only [sB, Nat.reduceAdd, Nat.reduceLT, Nat.reduceLeDiff, Nat.reduceEqDiff, Nat.reduceMul, ↓reduceIte]; done) | fail) only [sA, ↓reduceIte, Nat.reduceLT, Nat.reduceEqDiff, Nat.reduceAdd, Nat.reduceLeDiff, h0], by simp (disch := first | assumption | omega | (simp (disch := first | assumption | omega) only [sB, Nat.reduceAdd, Nat.reduceLT, Nat.reduceLeDiff, Nat.reduceEqDiff, Nat.reduceMul, ↓reduceIte]; done) | fail) only [sA, ↓reduceIte, Nat.reduceLT, Nat.reduceEqDiff, Nat.reduceAdd, Nat.reduceLeDiff, h4], by simp (disch := first | assumption | omega | (simp (disch := first | assumption | omega) only [sB, Nat.reduceAdd, Nat.reduceLT, Nat.reduceLeDiff, Nat.reduceEqDiff, Nat.reduceMul, ↓reduceIte]; done) | fail) only [sA, ↓reduceIte, Nat.reduceLT, Nat.reduceEqDiff, Nat.reduceAdd, Nat.reduceLeDiff, h9], by simp (disch := first | assumption | omega | (simp (disch := first | assumption | omega) only [sB, Nat.reduceAdd, Nat.reduceLT, Nat.reduceLeDiff, Nat.reduceEqDiff, Nat.reduceMul, ↓reduceIte]; done) | fail) only [sA, ↓reduceIte, Nat.reduceLT, Nat.reduceEqDiff, Nat.reduceAdd, Nat.reduceLeDiff, h10], by simp (disch := first | assumption | omega | (simp (disch := first | assumption | omega) only [sB, Nat.reduceAdd, Nat.reduceLT, Nat.reduceLeDiff, Nat.reduceEqDiff, Nat.reduceMul, ↓reduceIte]; done) | fail) only [sA, ↓reduceIte, Nat.reduceLT, Nat.reduceEqDiff, Nat.reduceAdd, Nat.reduceLeDiff]⟩
          · rw [if_neg f2] at hv ⊢
            simp (disch := first | assumption | omega | (simp (disch := first | assumption | omega) only [sB, Nat.reduceAdd, Nat.reduceLT, Nat.reduceLeDiff, Nat.reduceEqDiff, Nat.reduceMul, ↓reduceIte]; done) | fail) only [sA, ↓reduceIte, Nat.reduceLT, Nat.reduceEqDiff, Nat.reduceAdd, Nat.reduceLeDiff, h0, h4, h9, h10, h11, encP_eq, hr]
            exact ⟨_, _, _, rfl, H.cons (r := n' + 3) (by omega) (by omega) (fun k _ => lowbox k), by simp (disch := first | assumption | omega | (simp (disch := first | assumption | omega) only [sB, Nat.reduceAdd, Nat.reduceLT, Nat.reduceLeDiff, Nat.reduceEqDiff, Nat.reduceMul, ↓reduceIte]; done) | fail) only [sA, ↓reduceIte, Nat.reduceLT, Nat.reduceEqDiff, Nat.reduceAdd, Nat.reduceLeDiff, hr], by simp (disch := first | assumption | omega | (simp (disch := first | assumption | omega) only [sB, Nat.reduceAdd, Nat.reduceLT, Nat.reduceLeDiff, Nat.reduceEqDiff, Nat.reduceMul, ↓reduceIte]; done) | fail) only [sA, ↓reduceIte, Nat.reduceLT, Nat.reduceEqDiff, Nat.reduceAdd, Nat.reduceLeDiff, h0], by simp (disch := first | assumption | omega | (simp (disch := first | assumption | omega) only [sB, Nat.reduceAdd, Nat.reduceLT, Nat.reduceLeDiff, Nat.reduceEqDiff, Nat.reduceMul, ↓reduceIte]; done) | fail) only [sA, ↓reduceIte, Nat.reduceLT, Nat.reduceEqDiff, Nat.reduceAdd, Nat.reduceLeDiff, h4], by simp (disch := first | assumption | omega | (simp (disch := first | assumption | omega) only [sB, Nat.reduceAdd, Nat.reduceLT, Nat.reduceLeDiff, Nat.reduceEqDiff, Nat.reduceMul, ↓reduceIte]; done) | fail) only [sA, ↓reduceIte, Nat.reduceLT, Nat.reduceEqDiff, Nat.reduceAdd, Nat.reduceLeDiff, h9], by simp (disch := first | assumption | omega | (simp (disch := first | assumption | omega) only [sB, Nat.reduceAdd, Nat.reduceLT, Nat.reduceLeDiff, Nat.reduceEqDiff, Nat.reduceMul, ↓reduceIte]; done) | fail) only [sA, ↓reduceIte, Nat.reduceLT, Nat.reduceEqDiff, Nat.reduceAdd, Nat.reduceLeDiff, h10], by simp (disch := first | assumption | omega | (simp (disch := first | assumption | omega) only [sB, Nat.reduceAdd, Nat.reduceLT, Nat.reduceLeDiff, Nat.reduceEqDiff, Nat.reduceMul, ↓reduceIte]; done) | fail) only [sA, ↓reduceIte, Nat.reduceLT, Nat.reduceEqDiff, Nat.reduceAdd, Nat.reduceLeDiff]⟩
      obtain ⟨e2, n2, h2, hb2, k1⟩ := ihj (i + 1) (acc + varP s.el[i]) e1 n1 h1 (by omega) (by omega) (by omega) G gr g0 g4 g9 g10 g11
      exact ⟨e2, n2, h2, by rw [loop_next hb, hb2], k1⟩
  rw [f61_eq]
  unfold c61
  rw [callFn_eq (by rfl)]
  have H0 : Hp n (setO h r (.row 1 [.agg [.int .i64 (c : Int)]])) n h := by rw [setO_self hr0]; exact Hp.start hg
  have hl := fun e n' H => loop _ 0 c e n' h rfl (Nat.zero_le _) (by simp) H hr0
  simp (disch := first | assumption | omega | (simp (disch := first | assumption | omega) only [sB, Nat.reduceAdd, Nat.reduceLT, Nat.reduceLeDiff, Nat.reduceEqDiff, Nat.reduceMul, ↓reduceIte]; done) | fail) only [sA, ↓reduceIte, Nat.reduceLT, Nat.reduceEqDiff, Nat.reduceAdd, Nat.reduceLeDiff]
  obtain ⟨e2, n2, h2, hb2, k1⟩ := hl (putT (po 11) (.int .i64 0) (putT (po 10) (.int .i64 (s.el.length : Nat)) (putT (po 9) (slD 3 encP s) (putT (po 4) (.fn 61 [.ptr r 0 0] []) (putT (po 8) (.fn 61 [.ptr r 0 0] []) (putT (po 7) (.ptr r 0 0) (putT (po 0) (.ptr r 0 0) (putT (po 1) (slD 3 encP s) .lf)))))))) (n + 6)
    (H0.mono (by omega)) (by simp (disch := first | assumption | omega | (simp (disch := first | assumption | omega) only [sB, Nat.reduceAdd, Nat.reduceLT, Nat.reduceLeDiff, Nat.reduceEqDiff, Nat.reduceMul, ↓reduceIte]; done) | fail) only [sA, ↓reduceIte, Nat.reduceLT, Nat.reduceEqDiff, Nat.reduceAdd, Nat.reduceLeDiff]) (by simp (disch := first | assumption | omega | (simp (disch := first | assumption | omega) only [sB, Nat.reduceAdd, Nat.reduceLT, Nat.reduceLeDiff, Nat.reduceEqDiff, Nat.reduceMul, ↓reduceIte]; done) | fail) only [sA, ↓reduceIte, Nat.reduceLT, Nat.reduceEqDiff, Nat.reduceAdd, Nat.reduceLeDiff]) (by simp (disch := first | assumption | omega | (simp (disch := first | assumption | omega) only [sB, Nat.reduceAdd, Nat.reduceLT, Nat.reduceLeDiff, Nat.reduceEqDiff, Nat.reduceMul, ↓reduceIte]; done) | fail) only [sA, ↓reduceIte, Nat.reduceLT, Nat.reduceEqDiff, Nat.reduceAdd, Nat.reduceLeDiff]) (by simp (disch := first | assumption | omega | (simp (disch := first | assumption | omega) only [sB, Nat.reduceAdd, Nat.reduceLT, Nat.reduceLeDiff, Nat.reduceEqDiff, Nat.reduceMul, ↓reduceIte]; done) | fail) only [sA, ↓reduceIte, Nat.reduceLT, Nat.reduceEqDiff, Nat.reduceAdd, Nat.reduceLeDiff]) (by simp (disch := first | assumption | omega | (simp (disch := first | assumption | omega) only [sB, Nat.reduceAdd, Nat.reduceLT, Nat.reduceLeDiff, Nat.reduceEqDiff, Nat.reduceMul, ↓reduceIte]; done) | fail) only [sA, ↓reduceIte, Nat.reduceLT, Nat.reduceEqDiff, Nat.reduceAdd, Nat.reduceLeDiff])
  rw [hb2]
  simp (disch := first | assumption | omega | (simp (disch := first | assumption | omega) only [sB, Nat.reduceAdd, Nat.reduceLT, Nat.reduceLeDiff, Nat.reduceEqDiff, Nat.reduceMul, ↓reduceIte]; done) | fail) only [sA, ↓reduceIte, Nat.reduceLT, Nat.reduceEqDiff, Nat.reduceAdd, Nat.reduceLeDiff, finish_flat (d := .tup []) rfl k1]

theorem recVars (s : Sl Pat) (n : Nat) (h : Hps) (hs : sizePs s.el < 1000000000) (hg : ∀ k, n ≤ k → GoodAt k h) :
    callFn (LX (cF Go.Proofs.Try.prog)) n h [slD 3 encP s] (cF Go.Proofs.Try.prog 21) = .ok (.int .i64 (varPs s.el : Nat)) n h := by
  have hc : ∀ k, n + 3 ≤ k → callFn (LX (cF Go.Proofs.Try.prog)) k ((n + 2, .row 1 [.agg [.int .i64 0]]) :: h) [.ptr (n + 2) 0 0, slD 3 encP s] (cF Go.Proofs.Try.prog 61) =
      .ok (.tup []) k (setO ((n + 2, .row 1 [.agg [.int .i64 0]]) :: h) (n + 2) (.row 1 [.agg [.int .i64 ((0 + varPs s.el : Nat) : Int)]])) :=
    fun k hk => allVars _ s _ _ _ 0 (Nat.le_refl _) hs (by have := varPs_le s.el; omega) (fun q hq => good_cons.2 ⟨by omega, lowO_one (low_agg1 rfl), hg q (by omega)⟩) (by rw [getO_hd]; rfl)
  have hgn := hg n (Nat.le_refl _)
  rw [f21_eq]
  unfold c21
  rw [callFn_eq (by rfl)]
  simp (disch := first | assumption | omega | (simp (disch := first | assumption | omega) only [sB, Nat.reduceAdd, Nat.reduceLT, Nat.reduceLeDiff, Nat.reduceEqDiff, Nat.reduceMul, ↓reduceIte]; done) | fail) only [sA, ↓reduceIte, Nat.reduceLT, Nat.reduceEqDiff, Nat.reduceAdd, Nat.reduceLeDiff, hc]
end Go.Proofs.Ytjagmfgjlfkmgaa
