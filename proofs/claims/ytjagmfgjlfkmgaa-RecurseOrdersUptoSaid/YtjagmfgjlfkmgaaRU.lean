/- Find: the program's and the reference's answer. No condition. -/
import Derived.Test.YtjagmfgjlfkmgaaRT
set_option linter.unusedSimpArgs false
set_option linter.unusedVariables false
namespace Go.Proofs.Ytjagmfgjlfkmgaa
open Go

/-- the first place from k on, of so many, at which all calls are smaller -/
def findFrom (cs : List Cal) : Nat → Nat → Option Nat
  | _, 0 => none
  | k, f + 1 => if cs.all (fun c => atC c k == 2) then some k else findFrom cs (k + 1) f
def findD (cs : List Cal) (a : Int) : D :=
  if 1 ≤ a ∧ a ≤ 100 then (match findFrom cs 0 a.toNat with | some k => .tup [.int .i64 (k : Int), .bool true] | none => .tup [.int .i64 0, .bool false]) else .tup [.int .i64 0, .bool false]

theorem eq2 (c : Cal) (k : Nat) : (atC c k == 2) = decide (atC c k = 2) := by rw [Bool.eq_iff_iff]; simp
theorem filter_all {cs : List Cal} {p : Cal → Bool} : (cs.filter p).length = cs.length ↔ cs.all p = true := by
  rw [List.all_eq_true]
  exact List.length_filter_eq_length_iff

/-- the closure that Find hands on -/
theorem find1 (c : Cal) (k r n : Nat) (h : Hps) (hs : sizePs c.frm.el < 1000000000) (hg : ∀ k, n ≤ k → GoodAt k h) (hr : getO h r = .row 1 [.int .i64 (k : Int)]) :
    callFn (LX (cF Go.Proofs.Try.prog)) n h [.agg [slD 3 encP c.frm, slD 1 encI c.args], .ptr r 0 0] (cF Go.Proofs.Try.prog 58) = .ok (.bool (atC c k == 2)) n h := by
  have hgn := hg n (Nat.le_refl _)
  have hrn : r < n := getO_low hgn (by rw [hr]; exact fun h => by cases h)
  have c1 : ∀ m, n + 1 ≤ m → callFn (LX (cF Go.Proofs.Try.prog)) m ((n, .row 2 [.agg [slD 3 encP c.frm, slD 1 encI c.args]]) :: h) [.agg [slD 3 encP c.frm, slD 1 encI c.args], .int .i64 (k : Int)] (cF Go.Proofs.Try.prog 59) =
      .ok (.int .i64 (atC c k)) m ((n, .row 2 [.agg [slD 3 encP c.frm, slD 1 encI c.args]]) :: h) := fun m hm => recAt c k _ _ hs (fun q hq => good_cons.2 ⟨by omega, lowO_one (lowC q c), hg q (by omega)⟩)
  rw [f58_eq, eq2]
  unfold c58
  rw [callFn_eq (by rfl)]
  simp (disch := first | assumption | omega | (simp (disch := first | assumption | omega) only [sB, Nat.reduceAdd, Nat.reduceLT, Nat.reduceLeDiff, Nat.reduceEqDiff, Nat.reduceMul, ↓reduceIte]; done) | fail) only [sA, ↓reduceIte, Nat.reduceLT, Nat.reduceEqDiff, Nat.reduceAdd, Nat.reduceLeDiff, c1, hr]

theorem recFind (s : Sl Cal) (a : Int) (n : Nat) (h : Hps) (hl : s.el.length < 1000000000) (hf : Fewer 1000000000 s.el) (hg : ∀ k, n ≤ k → GoodAt k h) :
    callFn (LX (cF Go.Proofs.Try.prog)) n h [slD 2 encC s, .int .i64 a] (cF Go.Proofs.Try.prog 19) = .ok (findD s.el a) n h := by
  have hgn := hg n (Nat.le_refl _)
  by_cases h0 : s.el.length = 0
  · have hnil : s.el = [] := List.length_eq_zero_iff.1 h0
    rw [f19_eq]
    unfold c19 findD
    rw [callFn_eq (by rfl)]
    by_cases ha : 1 ≤ a
    · by_cases ha2 : a ≤ 100
      · obtain ⟨m, hm⟩ : ∃ m, a.toNat = m + 1 := ⟨a.toNat - 1, by omega⟩
        rw [if_pos ⟨ha, ha2⟩, hm, hnil]
        simp only [findFrom, List.all_nil, if_true]
        simp (disch := first | assumption | omega | (simp (disch := first | assumption | omega) only [sB, Nat.reduceAdd, Nat.reduceLT, Nat.reduceLeDiff, Nat.reduceEqDiff, Nat.reduceMul, ↓reduceIte]; done) | fail) only [sA, ↓reduceIte, Nat.reduceLT, Nat.reduceEqDiff, Nat.reduceAdd, Nat.reduceLeDiff]
      · rw [if_neg (by omega)]
        simp (disch := first | assumption | omega | (simp (disch := first | assumption | omega) only [sB, Nat.reduceAdd, Nat.reduceLT, Nat.reduceLeDiff, Nat.reduceEqDiff, Nat.reduceMul, ↓reduceIte]; done) | fail) only [sA, ↓reduceIte, Nat.reduceLT, Nat.reduceEqDiff, Nat.reduceAdd, Nat.reduceLeDiff]
    · rw [if_neg (by omega)]
      simp (disch := first | assumption | omega | (simp (disch := first | assumption | omega) only [sB, Nat.reduceAdd, Nat.reduceLT, Nat.reduceLeDiff, Nat.reduceEqDiff, Nat.reduceMul, ↓reduceIte]; done) | fail) only [sA, ↓reduceIte, Nat.reduceLT, Nat.reduceEqDiff, Nat.reduceAdd, Nat.reduceLeDiff]
  · have loop : ∀ (f k r : Nat) (e : Tr) (n' : Nat) (h' : Hps), (a.toNat : Int) = a → a ≤ 100 → k + f = a.toNat → Hp n h n' h' → n ≤ r → r < n' → getO h' r = .row 1 [.int .i64 (k : Int)] → get (po 0) e = slD 2 encC s → get (po 1) e = .int .i64 a → get (po 6) e = .ptr r 0 0 →
        ∃ x e2 n2 h2, LX (cF Go.Proofs.Try.prog) (.loop l19_0) e n' h' = .ok x e2 n2 h2 ∧ Hp n h n2 h2 ∧
          ((findFrom s.el k f = none ∧ x = .exit 0) ∨ ∃ q, findFrom s.el k f = some q ∧ x = .ret ∧ get (po 4) e2 = .int .i64 (q : Int) ∧ get (po 5) e2 = .bool true) := by
      intro f
      induction f with
      | zero =>
        intro k r e n' h' ha ha2 hk H hr1 hr2 hr h0 h1 h6
        obtain ⟨e1, n1, hb, g2⟩ : ∃ e1 n1, LX (cF Go.Proofs.Try.prog) l19_0 e n' h' = .ok (.exit 0) e1 n1 h' ∧ n' ≤ n1 := by
          unfold l19_0
          simp (disch := first | assumption | omega | (simp (disch := first | assumption | omega) only [sB, Nat.reduceAdd, Nat.reduceLT, Nat.reduceLeDiff, Nat.reduceEqDiff, Nat.reduceMul, ↓reduceIte]; done) | fail) only [sA, ↓reduceIte, Nat.reduceLT, Nat.reduceEqDiff, Nat.reduceAdd, Nat.reduceLeDiff, h0, h1, h6, hr]
          exact ⟨_, _, rfl, by omega⟩
        exact ⟨_, e1, n1, h', loop_exit hb, H.mono g2, .inl ⟨rfl, rfl⟩⟩
      | succ f ihf =>
        intro k r e n' h' ha ha2 hk H hr1 hr2 hr h0 h1 h6
        have hnn := H.le
        have hk : ∀ m, n' ≤ m → callFn (LX (cF Go.Proofs.Try.prog)) m h' [slD 2 encC s, .fn 58 [] [.ptr r 0 0]] (cF Go.Proofs.Try.prog 57) = .ok (slD 2 encC (Sl.app (s.el.filter fun c => atC c k == 2))) m h' :=
          fun m hm => recKept (fun c => atC c k == 2) _ s m h' hl (fun q hq => H.good q (by omega)) (fun c hc m' h'' hm' H' => by
            rw [callX_fn]
            exact find1 c k r m' h'' (hf c hc) H'.good ((H'.get (by omega)).trans hr))
        have hfa := filter_all (cs := s.el) (p := fun c => atC c k == 2)
        by_cases hall : s.el.all (fun c => atC c k == 2) = true
        · have hlen := hfa.2 hall
          obtain ⟨e1, n1, hb, g2, g4, g5⟩ : ∃ e1 n1, LX (cF Go.Proofs.Try.prog) l19_0 e n' h' = .ok .ret e1 n1 h' ∧ n' ≤ n1 ∧ get (po 4) e1 = .int .i64 (k : Int) ∧ get (po 5) e1 = .bool true := by
            unfold l19_0
            simp (disch := first | assumption | omega | (simp (disch := first | assumption | omega) only [sB, Nat.reduceAdd, Nat.reduceLT, Nat.reduceLeDiff, Nat.reduceEqDiff, Nat.reduceMul, ↓reduceIte]; done) | fail) only [sA, ↓reduceIte, Nat.reduceLT, Nat.reduceEqDiff, Nat.reduceAdd, Nat.reduceLeDiff, h0, h1, h6, hr, hk]
            exact ⟨_, _, rfl, by omega, by simp (disch := first | assumption | omega | (simp (disch := first | assumption | omega) only [sB, Nat.reduceAdd, Nat.reduceLT, Nat.reduceLeDiff, Nat.reduceEqDiff, Nat.reduceMul, ↓reduceIte]; done) | fail) only [sA, ↓reduceIte, Nat.reduceLT, Nat.reduceEqDiff, Nat.reduceAdd, Nat.reduceLeDiff], by simp (disch := first | assumption | omega | (simp (disch := first | assumption | omega) only [sB, Nat.reduceAdd, Nat.reduceLT, Nat.reduceLeDiff, Nat.reduceEqDiff, Nat.reduceMul, ↓reduceIte]; done) | fail) only [sA, ↓reduceIte, Nat.reduceLT, Nat.reduceEqDiff, Nat.reduceAdd, Nat.reduceLeDiff]⟩
          refine ⟨_, e1, n1, h', loop_ret hb, H.mono g2, .inr ⟨k, ?_, rfl, g4, g5⟩⟩
          simp only [findFrom, hall, if_true]
        · have hlen : ¬ (s.el.filter fun c => atC c k == 2).length = s.el.length := fun e => hall (hfa.1 e)
          obtain ⟨e1, n1, h1', r1, hb, G, q1, q2, q3, g0, g1, g6⟩ : ∃ e1 n1 h1' r1, LX (cF Go.Proofs.Try.prog) l19_0 e n' h' = .ok .normal e1 n1 h1' ∧ Hp n h n1 h1' ∧ n ≤ r1 ∧ r1 < n1 ∧ getO h1' r1 = .row 1 [.int .i64 ((k + 1 : Nat) : Int)] ∧ get (po 0) e1 = slD 2 encC s ∧ get (po 1) e1 = .int .i64 a ∧ get (po 6) e1 = .ptr r1 0 0 := by
            unfold l19_0
            simp (disch := first | assumption | omega | (simp (disch := first | assumption | omega) only [sB, Nat.reduceAdd, Nat.reduceLT, Nat.reduceLeDiff, Nat.reduceEqDiff, Nat.reduceMul, ↓reduceIte]; done) | fail) only [sA, ↓reduceIte, Nat.reduceLT, Nat.reduceEqDiff, Nat.reduceAdd, Nat.reduceLeDiff, h0, h1, h6, hr, hk]
            exact ⟨_, _, _, n' + 16, rfl, H.cons (by omega) (by omega) (fun q _ => lowO_one (low_flat rfl)), by omega, by omega, by simp (disch := first | assumption | omega | (simp (disch := first | assumption | omega) only [sB, Nat.reduceAdd, Nat.reduceLT, Nat.reduceLeDiff, Nat.reduceEqDiff, Nat.reduceMul, ↓reduceIte]; done) | fail) only [sA, ↓reduceIte, Nat.reduceLT, Nat.reduceEqDiff, Nat.reduceAdd, Nat.reduceLeDiff], by simp (disch := first | assumption | omega | (simp (disch := first | assumption | omega) only [sB, Nat.reduceAdd, Nat.reduceLT, Nat.reduceLeDiff, Nat.reduceEqDiff, Nat.reduceMul, ↓reduceIte]; done) | fail) only [sA, ↓reduceIte, Nat.reduceLT, Nat.reduceEqDiff, Nat.reduceAdd, Nat.reduceLeDiff, h0], by simp (disch := first | assumption | omega | (simp (disch := first | assumption | omega) only [sB, Nat.reduceAdd, Nat.reduceLT, Nat.reduceLeDiff, Nat.reduceEqDiff, Nat.reduceMul, ↓reduceIte]; done) | fail) only [sA, ↓reduceIte, Nat.reduceLT, Nat.reduceEqDiff, Nat.reduceAdd, Nat.reduceLeDiff, h1], by simp (disch := first | assumption | omega | (simp (disch := first | assumption | omega) only [sB, Nat.reduceAdd, Nat.reduceLT, Nat.reduceLeDiff, Nat.reduceEqDiff, Nat.reduceMul, ↓reduceIte]; done) | fail) only [sA, ↓reduceIte, Nat.reduceLT, Nat.reduceEqDiff, Nat.reduceAdd, Nat.reduceLeDiff]⟩
          obtain ⟨x, e2, n2, h2, hb2, k1, k2⟩ := ihf (k + 1) r1 e1 n1 h1' ha ha2 (by omega) G q1 q2 q3 g0 g1 g6
          refine ⟨x, e2, n2, h2, by rw [loop_next hb, hb2], k1, ?_⟩
          simp only [findFrom, hall]
          exact k2
    rw [f19_eq]
    unfold c19 findD
    rw [callFn_eq (by rfl)]
    by_cases ha : 1 ≤ a
    · by_cases ha2 : a ≤ 100
      · rw [if_pos ⟨ha, ha2⟩]
        simp (disch := first | assumption | omega | (simp (disch := first | assumption | omega) only [sB, Nat.reduceAdd, Nat.reduceLT, Nat.reduceLeDiff, Nat.reduceEqDiff, Nat.reduceMul, ↓reduceIte]; done) | fail) only [sA, ↓reduceIte, Nat.reduceLT, Nat.reduceEqDiff, Nat.reduceAdd, Nat.reduceLeDiff]
        obtain ⟨x, e2, n2, h2, hb2, k1, k2⟩ := loop a.toNat 0 (n + 5) (putT (po 6) (.ptr (n + 5) 0 0) (putT (po 9) (.bool false) (putT (po 8) (.int .i64 (s.el.length : Nat)) (putT (po 7) (slD 2 encC s) (putT (po 5) (.bool false) (putT (po 4) (.int .i64 0) (putT (po 0) (slD 2 encC s) (putT (po 1) (.int .i64 a) .lf)))))))) (n + 7) ((n + 5, .row 1 [.int .i64 0]) :: h)
          (by omega) ha2 (by omega) ((Hp.start hg).cons (by omega) (by omega) (fun q _ => lowO_one (low_flat rfl))) (by omega) (by omega) (by simp (disch := first | assumption | omega | (simp (disch := first | assumption | omega) only [sB, Nat.reduceAdd, Nat.reduceLT, Nat.reduceLeDiff, Nat.reduceEqDiff, Nat.reduceMul, ↓reduceIte]; done) | fail) only [sA, ↓reduceIte, Nat.reduceLT, Nat.reduceEqDiff, Nat.reduceAdd, Nat.reduceLeDiff]) (by simp (disch := first | assumption | omega | (simp (disch := first | assumption | omega) only [sB, Nat.reduceAdd, Nat.reduceLT, Nat.reduceLeDiff, Nat.reduceEqDiff, Nat.reduceMul, ↓reduceIte]; done) | fail) only [sA, ↓reduceIte, Nat.reduceLT, Nat.reduceEqDiff, Nat.reduceAdd, Nat.reduceLeDiff]) (by simp (disch := first | assumption | omega | (simp (disch := first | assumption | omega) only [sB, Nat.reduceAdd, Nat.reduceLT, Nat.reduceLeDiff, Nat.reduceEqDiff, Nat.reduceMul, ↓reduceIte]; done) | fail) only [sA, ↓reduceIte, Nat.reduceLT, Nat.reduceEqDiff, Nat.reduceAdd, Nat.reduceLeDiff]) (by simp (disch := first | assumption | omega | (simp (disch := first | assumption | omega) only [sB, Nat.reduceAdd, Nat.reduceLT, Nat.reduceLeDiff, Nat.reduceEqDiff, Nat.reduceMul, ↓reduceIte]; done) | fail) only [sA, ↓reduceIte, Nat.reduceLT, Nat.reduceEqDiff, Nat.reduceAdd, Nat.reduceLeDiff])
        rw [hb2]
        rcases k2 with ⟨k2, rfl⟩ | ⟨q, k2, rfl, k4, k5⟩
        · rw [k2]
          simp (disch := first | assumption | omega | (simp (disch := first | assumption | omega) only [sB, Nat.reduceAdd, Nat.reduceLT, Nat.reduceLeDiff, Nat.reduceEqDiff, Nat.reduceMul, ↓reduceIte]; done) | fail) only [sA, ↓reduceIte, Nat.reduceLT, Nat.reduceEqDiff, Nat.reduceAdd, Nat.reduceLeDiff, finish_flat (d := .tup [.int .i64 0, .bool false]) rfl (k1.mono (show n2 ≤ n2 + 2 by omega))]
        · rw [k2]
          simp (disch := first | assumption | omega | (simp (disch := first | assumption | omega) only [sB, Nat.reduceAdd, Nat.reduceLT, Nat.reduceLeDiff, Nat.reduceEqDiff, Nat.reduceMul, ↓reduceIte]; done) | fail) only [sA, ↓reduceIte, Nat.reduceLT, Nat.reduceEqDiff, Nat.reduceAdd, Nat.reduceLeDiff, k4, k5, finish_flat (d := .tup [.int .i64 (q : Int), .bool true]) rfl k1]
      · rw [if_neg (by omega)]
        have hb2 : ∀ m e h', get (po 0) e = slD 2 encC s → get (po 1) e = .int .i64 a → get (po 6) e = .ptr (n + 5) 0 0 → getO h' (n + 5) = .row 1 [.int .i64 0] → ∃ e2, LX (cF Go.Proofs.Try.prog) l19_0 e m h' = .ok (.exit 0) e2 (m + 7) h' := by
          intro m e h' h0 h1 h6 hr
          unfold l19_0
          simp (disch := first | assumption | omega | (simp (disch := first | assumption | omega) only [sB, Nat.reduceAdd, Nat.reduceLT, Nat.reduceLeDiff, Nat.reduceEqDiff, Nat.reduceMul, ↓reduceIte]; done) | fail) only [sA, ↓reduceIte, Nat.reduceLT, Nat.reduceEqDiff, Nat.reduceAdd, Nat.reduceLeDiff, h0, h1, h6, hr]
          exact ⟨_, rfl⟩
        simp (disch := first | assumption | omega | (simp (disch := first | assumption | omega) only [sB, Nat.reduceAdd, Nat.reduceLT, Nat.reduceLeDiff, Nat.reduceEqDiff, Nat.reduceMul, ↓reduceIte]; done) | fail) only [sA, ↓reduceIte, Nat.reduceLT, Nat.reduceEqDiff, Nat.reduceAdd, Nat.reduceLeDiff]
        obtain ⟨e2, hb3⟩ := hb2 (n + 7) (putT (po 6) (.ptr (n + 5) 0 0) (putT (po 9) (.bool false) (putT (po 8) (.int .i64 (s.el.length : Nat)) (putT (po 7) (slD 2 encC s) (putT (po 5) (.bool false) (putT (po 4) (.int .i64 0) (putT (po 0) (slD 2 encC s) (putT (po 1) (.int .i64 a) .lf)))))))) ((n + 5, .row 1 [.int .i64 0]) :: h) (by simp (disch := first | assumption | omega | (simp (disch := first | assumption | omega) only [sB, Nat.reduceAdd, Nat.reduceLT, Nat.reduceLeDiff, Nat.reduceEqDiff, Nat.reduceMul, ↓reduceIte]; done) | fail) only [sA, ↓reduceIte, Nat.reduceLT, Nat.reduceEqDiff, Nat.reduceAdd, Nat.reduceLeDiff]) (by simp (disch := first | assumption | omega | (simp (disch := first | assumption | omega) only [sB, Nat.reduceAdd, Nat.reduceLT, Nat.reduceLeDiff, Nat.reduceEqDiff, Nat.reduceMul, ↓reduceIte]; done) | fail) only [sA, ↓reduceIte, Nat.reduceLT, Nat.reduceEqDiff, Nat.reduceAdd, Nat.reduceLeDiff]) (by simp (disch := first | assumption | omega | (simp (disch := first | assumption | omega) only [sB, Nat.reduceAdd, Nat.reduceLT, Nat.reduceLeDiff, Nat.reduceEqDiff, Nat.reduceMul, ↓reduceIte]; done) | fail) only [sA, ↓reduceIte, Nat.reduceLT, Nat.reduceEqDiff, Nat.reduceAdd, Nat.reduceLeDiff]) (by simp (disch := first | assumption | omega | (simp (disch := first | assumption | omega) only [sB, Nat.reduceAdd, Nat.reduceLT, Nat.reduceLeDiff, Nat.reduceEqDiff, Nat.reduceMul, ↓reduceIte]; done) | fail) only [sA, ↓reduceIte, Nat.reduceLT, Nat.reduceEqDiff, Nat.reduceAdd, Nat.reduceLeDiff])
        rw [loop_exit hb3]
        simp (disch := first | assumption | omega | (simp (disch := first | assumption | omega) only [sB, Nat.reduceAdd, Nat.reduceLT, Nat.reduceLeDiff, Nat.reduceEqDiff, Nat.reduceMul, ↓reduceIte]; done) | fail) only [sA, ↓reduceIte, Nat.reduceLT, Nat.reduceEqDiff, Nat.reduceAdd, Nat.reduceLeDiff]
    · rw [if_neg (by omega)]
      have hb2 : ∀ m e h', get (po 0) e = slD 2 encC s → get (po 1) e = .int .i64 a → get (po 6) e = .ptr (n + 5) 0 0 → getO h' (n + 5) = .row 1 [.int .i64 0] → ∃ e2, LX (cF Go.Proofs.Try.prog) l19_0 e m h' = .ok (.exit 0) e2 (m + 7) h' := by
        intro m e h' h0 h1 h6 hr
        unfold l19_0
        simp (disch := first | assumption | omega | (simp (disch := first | assumption | omega) only [sB, Nat.reduceAdd, Nat.reduceLT, Nat.reduceLeDiff, Nat.reduceEqDiff, Nat.reduceMul, ↓reduceIte]; done) | fail) only [sA, ↓reduceIte, Nat.reduceLT, Nat.reduceEqDiff, Nat.reduceAdd, Nat.reduceLeDiff, h0, h1, h6, hr]
        exact ⟨_, rfl⟩
      simp (disch := first | assumption | omega | (simp (disch := first | assumption | omega) only [sB, Nat.reduceAdd, Nat.reduceLT, Nat.reduceLeDiff, Nat.reduceEqDiff, Nat.reduceMul, ↓reduceIte]; done) | fail) only [sA, ↓reduceIte, Nat.reduceLT, Nat.reduceEqDiff, Nat.reduceAdd, Nat.reduceLeDiff]
      obtain ⟨e2, hb3⟩ := hb2 (n + 7) (putT (po 6) (.ptr (n + 5) 0 0) (putT (po 9) (.bool false) (putT (po 8) (.int .i64 (s.el.length : Nat)) (putT (po 7) (slD 2 encC s) (putT (po 5) (.bool false) (putT (po 4) (.int .i64 0) (putT (po 0) (slD 2 encC s) (putT (po 1) (.int .i64 a) .lf)))))))) ((n + 5, .row 1 [.int .i64 0]) :: h) (by simp (disch := first | assumption | omega | (simp (disch := first | assumption | omega) only [sB, Nat.reduceAdd, Nat.reduceLT, Nat.reduceLeDiff, Nat.reduceEqDiff, Nat.reduceMul, ↓reduceIte]; done) | fail) only [sA, ↓reduceIte, Nat.reduceLT, Nat.reduceEqDiff, Nat.reduceAdd, Nat.reduceLeDiff]) (by simp (disch := first | assumption | omega | (simp (disch := first | assumption | omega) only [sB, Nat.reduceAdd, Nat.reduceLT, Nat.reduceLeDiff, Nat.reduceEqDiff, Nat.reduceMul, ↓reduceIte]; done) | fail) only [sA, ↓reduceIte, Nat.reduceLT, Nat.reduceEqDiff, Nat.reduceAdd, Nat.reduceLeDiff]) (by simp (disch := first | assumption | omega | (simp (disch := first | assumption | omega) only [sB, Nat.reduceAdd, Nat.reduceLT, Nat.reduceLeDiff, Nat.reduceEqDiff, Nat.reduceMul, ↓reduceIte]; done) | fail) only [sA, ↓reduceIte, Nat.reduceLT, Nat.reduceEqDiff, Nat.reduceAdd, Nat.reduceLeDiff]) (by simp (disch := first | assumption | omega | (simp (disch := first | assumption | omega) only [sB, Nat.reduceAdd, Nat.reduceLT, Nat.reduceLeDiff, Nat.reduceEqDiff, Nat.reduceMul, ↓reduceIte]; done) | fail) only [sA, ↓reduceIte, Nat.reduceLT, Nat.reduceEqDiff, Nat.reduceAdd, Nat.reduceLeDiff])
      rw [loop_exit hb3]
      simp (disch := first | assumption | omega | (simp (disch := first | assumption | omega) only [sB, Nat.reduceAdd, Nat.reduceLT, Nat.reduceLeDiff, Nat.reduceEqDiff, Nat.reduceMul, ↓reduceIte]; done) | fail) only [sA, ↓reduceIte, Nat.reduceLT, Nat.reduceEqDiff, Nat.reduceAdd, Nat.reduceLeDiff]
end Go.Proofs.Ytjagmfgjlfkmgaa
