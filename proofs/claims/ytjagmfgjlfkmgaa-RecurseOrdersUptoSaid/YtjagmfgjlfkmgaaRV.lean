/- Find: the reference's answer. No condition. -/
import Derived.Test.YtjagmfgjlfkmgaaRU
set_option linter.unusedSimpArgs false
set_option linter.unusedVariables false
namespace Go.Proofs.Ytjagmfgjlfkmgaa
open Go

theorem refFind (s : Sl Cal) (a : Int) (n : Nat) (h : Hps) (hl : s.el.length < 1000000000) (hf : Fewer 1000000000 s.el) (hg : ∀ k, n ≤ k → GoodAt k h) :
    callFn (LX (cF Go.Proofs.Try.prog)) n h [slD 2 encC s, .int .i64 a] (cF Go.Proofs.Try.prog 20) = .ok (findD s.el a) n h := by
  have hgn := hg n (Nat.le_refl _)
  have inner : ∀ (k j i : Nat) (b : Bool) (e : Tr) (n' : Nat), n ≤ n' → s.el.length - i = j → i ≤ s.el.length → get (po 0) e = slD 2 encC s → get (po 1) e = .int .i64 a → get (po 6) e = .int .i64 (k : Int) → get (po 7) e = .bool b → get (po 8) e = .int .i64 (i : Int) →
      ∃ e2 n2, LX (cF Go.Proofs.Try.prog) (.loop l20_0) e n' h = .ok (.exit 2) e2 n2 h ∧ n ≤ n2 ∧ get (po 0) e2 = slD 2 encC s ∧ get (po 1) e2 = .int .i64 a ∧ get (po 6) e2 = .int .i64 (k : Int) ∧ get (po 7) e2 = .bool (b && (s.el.drop i).all fun c => atC c k == 2) := by
    intro k j
    induction j with
    | zero =>
      intro i b e n' hn hj hi h0 h1 h6 h7 h8
      have hdrop : s.el.drop i = [] := List.drop_eq_nil_of_le (by omega)
      rw [hdrop, List.all_nil, Bool.and_true]
      obtain ⟨e1, n1, hb, g2, g0, g1, g6, g7⟩ : ∃ e1 n1, LX (cF Go.Proofs.Try.prog) l20_0 e n' h = .ok (.exit 2) e1 n1 h ∧ n ≤ n1 ∧ get (po 0) e1 = slD 2 encC s ∧ get (po 1) e1 = .int .i64 a ∧ get (po 6) e1 = .int .i64 (k : Int) ∧ get (po 7) e1 = .bool b := by
        unfold l20_0
        simp (disch := first | assumption | omega | (simp (disch := first | assumption | omega) only [sB, Nat.reduceAdd, Nat.reduceLT, Nat.reduceLeDiff, Nat.reduceEqDiff, Nat.reduceMul, ↓reduceIte]; done) | fail) only [sA, ↓reduceIte, Nat.reduceLT, Nat.reduceEqDiff, Nat.reduceAdd, Nat.reduceLeDiff, h0, h1, h6, h7, h8]
        exact ⟨_, _, rfl, by omega, by simp (disch := first | assumption | omega | (simp (disch := first | assumption | omega) only [sB, Nat.reduceAdd, Nat.reduceLT, Nat.reduceLeDiff, Nat.reduceEqDiff, Nat.reduceMul, ↓reduceIte]; done) | fail) only [sA, ↓reduceIte, Nat.reduceLT, Nat.reduceEqDiff, Nat.reduceAdd, Nat.reduceLeDiff, h0], by simp (disch := first | assumption | omega | (simp (disch := first | assumption | omega) only [sB, Nat.reduceAdd, Nat.reduceLT, Nat.reduceLeDiff, Nat.reduceEqDiff, Nat.reduceMul, ↓reduceIte]; done) | fail) only [sA, ↓reduceIte, Nat.reduceLT, Nat.reduceEqDiff, Nat.reduceAdd, Nat.reduceLeDiff, h1], by simp (disch := first | assumption | omega | (simp (disch := first | assumption | omega) only [sB, Nat.reduceAdd, Nat.reduceLT, Nat.reduceLeDiff, Nat.reduceEqDiff, Nat.reduceMul, ↓reduceIte]; done) | fail) only [sA, ↓reduceIte, Nat.reduceLT, Nat.reduceEqDiff, Nat.reduceAdd, Nat.reduceLeDiff, h6], by simp (disch := first | assumption | omega | (simp (disch := first | assumption | omega) only [sB, Nat.reduceAdd, Nat.reduceLT, Nat.reduceLeDiff, Nat.reduceEqDiff, Nat.reduceMul, ↓reduceIte]; done) | fail) only [sA, ↓reduceIte, Nat.reduceLT, Nat.reduceEqDiff, Nat.reduceAdd, Nat.reduceLeDiff, h7]⟩
      exact ⟨e1, n1, loop_exit hb, g2, g0, g1, g6, g7⟩
    | succ j ihj =>
      intro i b e n' hn hj hi h0 h1 h6 h7 h8
      have hlt : i < s.el.length := by omega
      have hdc : s.el.drop i = s.el[i] :: s.el.drop (i + 1) := List.drop_eq_getElem_cons hlt
      have hfc := hf s.el[i] (List.getElem_mem hlt)
      have hc : ∀ m, n' ≤ m → callFn (LX (cF Go.Proofs.Try.prog)) m h [.agg [slD 3 encP s.el[i].frm, slD 1 encI s.el[i].args], .int .i64 (k : Int)] (cF Go.Proofs.Try.prog 60) = .ok (.int .i64 (atC s.el[i] k)) m h :=
        fun m hm => refAt _ k m h hfc (fun q hq => hg q (by omega))
      obtain ⟨e1, n1, hb, g2, g0, g1, g6, g7, g8⟩ : ∃ e1 n1, LX (cF Go.Proofs.Try.prog) l20_0 e n' h = .ok .normal e1 n1 h ∧ n ≤ n1 ∧ get (po 0) e1 = slD 2 encC s ∧ get (po 1) e1 = .int .i64 a ∧ get (po 6) e1 = .int .i64 (k : Int) ∧ get (po 7) e1 = .bool (b && (atC s.el[i] k == 2)) ∧ get (po 8) e1 = .int .i64 ((i + 1 : Nat) : Int) := by
        unfold l20_0
        by_cases h2 : atC s.el[i] k = 2
        · rw [show (atC s.el[i] k == 2) = true by rw [h2]; rfl, Bool.and_true]
          simp (disch := first | assumption | omega | (simp (disch := first | assumption | omega) only [sB, Nat.reduceAdd, Nat.reduceLT, Nat.reduceLeDiff, Nat.reduceEqDiff, Nat.reduceMul, ↓reduceIte]; done) | fail) only [sA, ↓reduceIte, Nat.reduceLT, Nat.reduceEqDiff, Nat.reduceAdd, Nat.reduceLeDiff, h0, h1, h6, h7, h8, encC, hc]
          exact ⟨_, _, rfl, by omega, by simp (disch := first | assumption | omega | (simp (disch := first | assumption | omega) only [sB, Nat.reduceAdd, Nat.reduceLT, Nat.reduceLeDiff, Nat.reduceEqDiff, Nat.reduceMul, ↓reduceIte]; done) | fail) only [sA, ↓reduceIte, Nat.reduceLT, Nat.reduceEqDiff, Nat.reduceAdd, Nat.reduceLeDiff, h0], by simp (disch := first | assumption | omega | (simp (disch := first | assumption | omega) only [sB, Nat.reduceAdd, Nat.reduceLT, Nat.reduceLeDiff, Nat.reduceEqDiff, Nat.reduceMul, ↓reduceIte]; done) | fail) only [sA, ↓reduceIte, Nat.reduceLT, Nat.reduceEqDiff, Nat.reduceAdd, Nat.reduceLeDiff, h1], by simp (disch := first | assumption | omega | (simp (disch := first | assumption | omega) only [sB, Nat.reduceAdd, Nat.reduceLT, Nat.reduceLeDiff, Nat.reduceEqDiff, Nat.reduceMul, ↓reduceIte]; done) | fail) only [sA, ↓reduceIte, Nat.reduceLT, Nat.reduceEqDiff, Nat.reduceAdd, Nat.reduceLeDiff, h6], by simp (disch := first | assumption | omega | (simp (disch := first | assumption | omega) only [sB, Nat.reduceAdd, Nat.reduceLT, Nat.reduceLeDiff, Nat.reduceEqDiff, Nat.reduceMul, ↓reduceIte]; done) | fail) only [sA, ↓reduceIte, Nat.reduceLT, Nat.reduceEqDiff, Nat.reduceAdd, Nat.reduceLeDiff, h7], by simp (disch := first | assumption | omega | (simp (disch := first | assumption | omega) only [sB, Nat.reduceAdd, Nat.reduceLT, Nat.reduceLeDiff, Nat.reduceEqDiff, Nat.reduceMul, ↓reduceIte]; done) | fail) only [sA, ↓reduceIte, Nat.reduceLT, Nat.reduceEqDiff, Nat.reduceAdd, Nat.reduceLeDiff]⟩
        · rw [show (atC s.el[i] k == 2) = false by rw [eq2]; exact decide_eq_false h2, Bool.and_false]
          simp (disch := first | assumption | omega | (simp (disch := first | assumption | omega) only [sB, Nat.reduceAdd, Nat.reduceLT, Nat.reduceLeDiff, Nat.reduceEqDiff, Nat.reduceMul, ↓reduceIte]; done) | fail) only [sA, ↓reduceIte, Nat.reduceLT, Nat.reduceEqDiff, Nat.reduceAdd, Nat.reduceLeDiff, h0, h1, h6, h7, h8, encC, hc]
          exact ⟨_, _, rfl, by omega, by simp (disch := first | assumption | omega | (simp (disch := first | assumption | omega) only [sB, Nat.reduceAdd, Nat.reduceLT, Nat.reduceLeDiff, Nat.reduceEqDiff, Nat.reduceMul, ↓reduceIte]; done) | fail) only [sA, ↓reduceIte, Nat.reduceLT, Nat.reduceEqDiff, Nat.reduceAdd, Nat.reduceLeDiff, h0], by simp (disch := first | assumption | omega | (simp (disch := first | assumption | omega) only [sB, Nat.reduceAdd, Nat.reduceLT, Nat.reduceLeDiff, Nat.reduceEqDiff, Nat.reduceMul, ↓reduceIte]; done) | fail) only [sA, ↓reduceIte, Nat.reduceLT, Nat.reduceEqDiff, Nat.reduceAdd, Nat.reduceLeDiff, h1], by simp (disch := first | assumption | omega | (simp (disch := first | assumption | omega) only [sB, Nat.reduceAdd, Nat.reduceLT, Nat.reduceLeDiff, Nat.reduceEqDiff, Nat.reduceMul, ↓reduceIte]; done) | fail) only [sA, ↓reduceIte, Nat.reduceLT, Nat.reduceEqDiff, Nat.reduceAdd, Nat.reduceLeDiff, h6], by simp (disch := first | assumption | omega | (simp (disch := first | assumption | omega) only [sB, Nat.reduceAdd, Nat.reduceLT, Nat.reduceLeDiff, Nat.reduceEqDiff, Nat.reduceMul, ↓reduceIte]; done) | fail) only [sA, ↓reduceIte, Nat.reduceLT, Nat.reduceEqDiff, Nat.reduceAdd, Nat.reduceLeDiff, h7], by simp (disch := first | assumption | omega | (simp (disch := first | assumption | omega) only [sB, Nat.reduceAdd, Nat.reduceLT, Nat.reduceLeDiff, Nat.reduceEqDiff, Nat.reduceMul, ↓reduceIte]; done) | fail) only [sA, ↓reduceIte, Nat.reduceLT, Nat.reduceEqDiff, Nat.reduceAdd, Nat.reduceLeDiff]⟩
      obtain ⟨e2, n2, hb2, k2, k0, k1, k6, k7⟩ := ihj (i + 1) _ e1 n1 g2 (by omega) (by omega) g0 g1 g6 g7 g8
      refine ⟨e2, n2, by rw [loop_next hb, hb2], k2, k0, k1, k6, ?_⟩
      rw [k7, hdc, List.all_cons, Bool.and_assoc]
  have outer : ∀ (f k : Nat) (e : Tr) (n' : Nat), (a.toNat : Int) = a → a ≤ 100 → k + f = a.toNat → n ≤ n' → get (po 0) e = slD 2 encC s → get (po 1) e = .int .i64 a → get (po 6) e = .int .i64 (k : Int) →
      ∃ x e2 n2, LX (cF Go.Proofs.Try.prog) (.loop l20_1) e n' h = .ok x e2 n2 h ∧ n ≤ n2 ∧
        ((findFrom s.el k f = none ∧ x = .exit 0) ∨ ∃ q, findFrom s.el k f = some q ∧ x = .ret ∧ get (po 4) e2 = .int .i64 (q : Int) ∧ get (po 5) e2 = .bool true) := by
    intro f
    induction f with
    | zero =>
      intro k e n' ha ha2 hk hn h0 h1 h6
      obtain ⟨e1, n1, hb, g2⟩ : ∃ e1 n1, LX (cF Go.Proofs.Try.prog) l20_1 e n' h = .ok (.exit 0) e1 n1 h ∧ n ≤ n1 := by
        unfold l20_1
        simp (disch := first | assumption | omega | (simp (disch := first | assumption | omega) only [sB, Nat.reduceAdd, Nat.reduceLT, Nat.reduceLeDiff, Nat.reduceEqDiff, Nat.reduceMul, ↓reduceIte]; done) | fail) only [sA, ↓reduceIte, Nat.reduceLT, Nat.reduceEqDiff, Nat.reduceAdd, Nat.reduceLeDiff, h0, h1, h6]
        exact ⟨_, _, rfl, by omega⟩
      exact ⟨_, e1, n1, loop_exit hb, g2, .inl ⟨rfl, rfl⟩⟩
    | succ f ihf =>
      intro k e n' ha ha2 hk hn h0 h1 h6
      obtain ⟨e3, n3, hb3, k2, k0, k1, k6, k7⟩ := inner k _ 0 true (putT (po 8) (.int .i64 0) (putT (po 7) (.bool true) (putT (po 17) (.bool true) (putT (po 16) (.int .i64 a) (putT (po 15) (.int .i64 (k : Int)) e))))) (n' + 5) (by omega) rfl (Nat.zero_le _) (by simp (disch := first | assumption | omega | (simp (disch := first | assumption | omega) only [sB, Nat.reduceAdd, Nat.reduceLT, Nat.reduceLeDiff, Nat.reduceEqDiff, Nat.reduceMul, ↓reduceIte]; done) | fail) only [sA, ↓reduceIte, Nat.reduceLT, Nat.reduceEqDiff, Nat.reduceAdd, Nat.reduceLeDiff, h0]) (by simp (disch := first | assumption | omega | (simp (disch := first | assumption | omega) only [sB, Nat.reduceAdd, Nat.reduceLT, Nat.reduceLeDiff, Nat.reduceEqDiff, Nat.reduceMul, ↓reduceIte]; done) | fail) only [sA, ↓reduceIte, Nat.reduceLT, Nat.reduceEqDiff, Nat.reduceAdd, Nat.reduceLeDiff, h1]) (by simp (disch := first | assumption | omega | (simp (disch := first | assumption | omega) only [sB, Nat.reduceAdd, Nat.reduceLT, Nat.reduceLeDiff, Nat.reduceEqDiff, Nat.reduceMul, ↓reduceIte]; done) | fail) only [sA, ↓reduceIte, Nat.reduceLT, Nat.reduceEqDiff, Nat.reduceAdd, Nat.reduceLeDiff, h6]) (by simp (disch := first | assumption | omega | (simp (disch := first | assumption | omega) only [sB, Nat.reduceAdd, Nat.reduceLT, Nat.reduceLeDiff, Nat.reduceEqDiff, Nat.reduceMul, ↓reduceIte]; done) | fail) only [sA, ↓reduceIte, Nat.reduceLT, Nat.reduceEqDiff, Nat.reduceAdd, Nat.reduceLeDiff]) (by simp (disch := first | assumption | omega | (simp (disch := first | assumption | omega) only [sB, Nat.reduceAdd, Nat.reduceLT, Nat.reduceLeDiff, Nat.reduceEqDiff, Nat.reduceMul, ↓reduceIte]; done) | fail) only [sA, ↓reduceIte, Nat.reduceLT, Nat.reduceEqDiff, Nat.reduceAdd, Nat.reduceLeDiff])
      rw [List.drop_zero, Bool.true_and] at k7
      by_cases hall : s.el.all (fun c => atC c k == 2) = true
      · rw [hall] at k7
        obtain ⟨e1, n1, hb, g2, g4, g5⟩ : ∃ e1 n1, LX (cF Go.Proofs.Try.prog) l20_1 e n' h = .ok .ret e1 n1 h ∧ n ≤ n1 ∧ get (po 4) e1 = .int .i64 (k : Int) ∧ get (po 5) e1 = .bool true := by
          unfold l20_1
          simp (disch := first | assumption | omega | (simp (disch := first | assumption | omega) only [sB, Nat.reduceAdd, Nat.reduceLT, Nat.reduceLeDiff, Nat.reduceEqDiff, Nat.reduceMul, ↓reduceIte]; done) | fail) only [sA, ↓reduceIte, Nat.reduceLT, Nat.reduceEqDiff, Nat.reduceAdd, Nat.reduceLeDiff, h0, h1, h6, hb3, k0, k1, k6, k7]
          exact ⟨_, _, rfl, by omega, by simp (disch := first | assumption | omega | (simp (disch := first | assumption | omega) only [sB, Nat.reduceAdd, Nat.reduceLT, Nat.reduceLeDiff, Nat.reduceEqDiff, Nat.reduceMul, ↓reduceIte]; done) | fail) only [sA, ↓reduceIte, Nat.reduceLT, Nat.reduceEqDiff, Nat.reduceAdd, Nat.reduceLeDiff], by simp (disch := first | assumption | omega | (simp (disch := first | assumption | omega) only [sB, Nat.reduceAdd, Nat.reduceLT, Nat.reduceLeDiff, Nat.reduceEqDiff, Nat.reduceMul, ↓reduceIte]; done) | fail) only [sA, ↓reduceIte, Nat.reduceLT, Nat.reduceEqDiff, Nat.reduceAdd, Nat.reduceLeDiff]⟩
        refine ⟨_, e1, n1, loop_ret hb, g2, .inr ⟨k, ?_, rfl, g4, g5⟩⟩
        simp only [findFrom, hall, if_true]
      · have hall2 : s.el.all (fun c => atC c k == 2) = false := by cases hx : s.el.all (fun c => atC c k == 2) <;> first | rfl | exact absurd hx hall
        rw [hall2] at k7
        obtain ⟨e1, n1, hb, g2, g0, g1, g6⟩ : ∃ e1 n1, LX (cF Go.Proofs.Try.prog) l20_1 e n' h = .ok .normal e1 n1 h ∧ n ≤ n1 ∧ get (po 0) e1 = slD 2 encC s ∧ get (po 1) e1 = .int .i64 a ∧ get (po 6) e1 = .int .i64 ((k + 1 : Nat) : Int) := by
          unfold l20_1
          simp (disch := first | assumption | omega | (simp (disch := first | assumption | omega) only [sB, Nat.reduceAdd, Nat.reduceLT, Nat.reduceLeDiff, Nat.reduceEqDiff, Nat.reduceMul, ↓reduceIte]; done) | fail) only [sA, ↓reduceIte, Nat.reduceLT, Nat.reduceEqDiff, Nat.reduceAdd, Nat.reduceLeDiff, h0, h1, h6, hb3, k0, k1, k6, k7]
          exact ⟨_, _, rfl, by omega, by simp (disch := first | assumption | omega | (simp (disch := first | assumption | omega) only [sB, Nat.reduceAdd, Nat.reduceLT, Nat.reduceLeDiff, Nat.reduceEqDiff, Nat.reduceMul, ↓reduceIte]; done) | fail) only [sA, ↓reduceIte, Nat.reduceLT, Nat.reduceEqDiff, Nat.reduceAdd, Nat.reduceLeDiff, k0], by simp (disch := first | assumption | omega | (simp (disch := first | assumption | omega) only [sB, Nat.reduceAdd, Nat.reduceLT, Nat.reduceLeDiff, Nat.reduceEqDiff, Nat.reduceMul, ↓reduceIte]; done) | fail) only [sA, ↓reduceIte, Nat.reduceLT, Nat.reduceEqDiff, Nat.reduceAdd, Nat.reduceLeDiff, k1], by simp (disch := first | assumption | omega | (simp (disch := first | assumption | omega) only [sB, Nat.reduceAdd, Nat.reduceLT, Nat.reduceLeDiff, Nat.reduceEqDiff, Nat.reduceMul, ↓reduceIte]; done) | fail) only [sA, ↓reduceIte, Nat.reduceLT, Nat.reduceEqDiff, Nat.reduceAdd, Nat.reduceLeDiff]⟩
        obtain ⟨x, e2, n2, hb2, q1, q2⟩ := ihf (k + 1) e1 n1 ha ha2 (by omega) g2 g0 g1 g6
        refine ⟨x, e2, n2, by rw [loop_next hb, hb2], q1, ?_⟩
        simp only [findFrom, hall]
        exact q2
  rw [f20_eq]
  unfold c20 findD
  rw [callFn_eq (by rfl)]
  by_cases ha : 1 ≤ a
  · by_cases ha2 : a ≤ 100
    · rw [if_pos ⟨ha, ha2⟩]
      simp (disch := first | assumption | omega | (simp (disch := first | assumption | omega) only [sB, Nat.reduceAdd, Nat.reduceLT, Nat.reduceLeDiff, Nat.reduceEqDiff, Nat.reduceMul, ↓reduceIte]; done) | fail) only [sA, ↓reduceIte, Nat.reduceLT, Nat.reduceEqDiff, Nat.reduceAdd, Nat.reduceLeDiff]
      obtain ⟨x, e2, n2, hb2, k1, k2⟩ := outer a.toNat 0 (putT (po 6) (.int .i64 0) (putT (po 14) (.bool false) (putT (po 13) (.bool false) (putT (po 12) (.int .i64 a) (putT (po 11) (.bool false) (putT (po 10) (.bool false) (putT (po 9) (.int .i64 a) (putT (po 5) (.bool false) (putT (po 4) (.int .i64 0) (putT (po 0) (slD 2 encC s) (putT (po 1) (.int .i64 a) .lf))))))))))) (n + 9)
        (by omega) ha2 (by omega) (by omega) (by simp (disch := first | assumption | omega | (simp (disch := first | assumption | omega) only [sB, Nat.reduceAdd, Nat.reduceLT, Nat.reduceLeDiff, Nat.reduceEqDiff, Nat.reduceMul, ↓reduceIte]; done) | fail) only [sA, ↓reduceIte, Nat.reduceLT, Nat.reduceEqDiff, Nat.reduceAdd, Nat.reduceLeDiff]) (by simp (disch := first | assumption | omega | (simp (disch := first | assumption | omega) only [sB, Nat.reduceAdd, Nat.reduceLT, Nat.reduceLeDiff, Nat.reduceEqDiff, Nat.reduceMul, ↓reduceIte]; done) | fail) only [sA, ↓reduceIte, Nat.reduceLT, Nat.reduceEqDiff, Nat.reduceAdd, Nat.reduceLeDiff]) (by simp (disch := first | assumption | omega | (simp (disch := first | assumption | omega) only [sB, Nat.reduceAdd, Nat.reduceLT, Nat.reduceLeDiff, Nat.reduceEqDiff, Nat.reduceMul, ↓reduceIte]; done) | fail) only [sA, ↓reduceIte, Nat.reduceLT, Nat.reduceEqDiff, Nat.reduceAdd, Nat.reduceLeDiff])
      rw [hb2]
      rcases k2 with ⟨k2, rfl⟩ | ⟨q, k2, rfl, k4, k5⟩
      · rw [k2]
        simp (disch := first | assumption | omega | (simp (disch := first | assumption | omega) only [sB, Nat.reduceAdd, Nat.reduceLT, Nat.reduceLeDiff, Nat.reduceEqDiff, Nat.reduceMul, ↓reduceIte]; done) | fail) only [sA, ↓reduceIte, Nat.reduceLT, Nat.reduceEqDiff, Nat.reduceAdd, Nat.reduceLeDiff]
      · rw [k2]
        simp (disch := first | assumption | omega | (simp (disch := first | assumption | omega) only [sB, Nat.reduceAdd, Nat.reduceLT, Nat.reduceLeDiff, Nat.reduceEqDiff, Nat.reduceMul, ↓reduceIte]; done) | fail) only [sA, ↓reduceIte, Nat.reduceLT, Nat.reduceEqDiff, Nat.reduceAdd, Nat.reduceLeDiff, k4, k5]
    · rw [if_neg (by omega)]
      simp (disch := first | assumption | omega | (simp (disch := first | assumption | omega) only [sB, Nat.reduceAdd, Nat.reduceLT, Nat.reduceLeDiff, Nat.reduceEqDiff, Nat.reduceMul, ↓reduceIte]; done) | fail) only [sA, ↓reduceIte, Nat.reduceLT, Nat.reduceEqDiff, Nat.reduceAdd, Nat.reduceLeDiff]
  · rw [if_neg (by omega)]
    simp (disch := first | assumption | omega | (simp (disch := first | assumption | omega) only [sB, Nat.reduceAdd, Nat.reduceLT, Nat.reduceLeDiff, Nat.reduceEqDiff, Nat.reduceMul, ↓reduceIte]; done) | fail) only [sA, ↓reduceIte, Nat.reduceLT, Nat.reduceEqDiff, Nat.reduceAdd, Nat.reduceLeDiff]
end Go.Proofs.Ytjagmfgjlfkmgaa
