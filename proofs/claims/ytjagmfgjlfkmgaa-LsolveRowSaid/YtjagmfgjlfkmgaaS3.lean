/- The program's Solve. No condition but lengths. -/
import Derived.Test.YtjagmfgjlfkmgaaS2
set_option linter.unusedSimpArgs false
set_option linter.unusedVariables false
namespace Go.Proofs.Ytjagmfgjlfkmgaa
open Go

/-- what the program tells of the rounds' outcome -/
def NumsOkB (l : List Lm) (v : List Int) : Prop := NumsOk l v
set_option maxHeartbeats 8000000 in
theorem lvSolve (n : Nat) (h : Hps) (hF : ∀ p, p ∈ h → p.1 < n ∧ ∀ k, lowO k p.2) (a : Int) (d : D) (l : List SLim) (ad : Nat → D) (S : Sv 4 encM n h d l ad) (hl : l.length < 1000000000) :
    ∃ X h', callFn (LX (cF Go.Proofs.Try.prog)) n h [.int .i64 a, d] (cF Go.Proofs.Try.prog 28) = .ok X n h' ∧ (∀ p, p ∈ h' → p.1 < n ∧ ∀ k, lowO k p.2) ∧
      ((∃ c, limBad a l = some c ∧ X = .tup [.nils, .int .i64 c]) ∨ (limBad a l = none ∧ ∃ p, RunP a.toNat (l.map lm) 0 (List.replicate a.toNat 0) p ∧ ((p = none ∧ X = limD none) ∨ ∃ w, p = some w ∧ ((NumsOk (l.map lm) w ∧ X = limD (some w)) ∨ (¬ NumsOk (l.map lm) w ∧ X = limD none))))) := by
  have hg : ∀ k, n ≤ k → GoodAt k h := fun k hk p hp => ⟨by have := (hF p hp).1; omega, (hF p hp).2 k⟩
  have hgn := hg n (Nat.le_refl _)
  have s1 := S.len
  have s3 := S.okD
  have W0 : ∀ b, n ≤ b → Wh n b b h := fun b hb => ⟨Nat.le_refl _, fun p hp => ⟨by have := (hF p hp).1; omega, ⟨fun k _ _ => (hF p hp).2 k, fun _ k => (hF p hp).2 k⟩⟩⟩
  have fin : ∀ {b n2 : Nat} {h2 : Hps} {X : D}, Wh n b n2 h2 → flat X = true → ∀ m, finishD n m h2 X = .ok X n (dropFrom n h2) := fun H hX m => finishD_flat hX H.leak0
  have hdF : ∀ {b n2 : Nat} {h2 : Hps}, Wh n b n2 h2 → ∀ p, p ∈ dropFrom n h2 → p.1 < n ∧ ∀ k, lowO k p.2 := by
    intro b n2 h2 H
    obtain ⟨_, H⟩ := H
    induction h2 with
    | nil => intro p hp; cases hp
    | cons x t ih =>
      obtain ⟨r, y⟩ := x
      have h2 := ih (fun p hp => H p (by simp [hp]))
      by_cases e : r < n
      · rw [drop_old e]
        intro p hp
        rcases List.mem_cons.1 hp with rfl | hp
        · exact ⟨e, (H (r, y) (by simp)).2.2 e⟩
        · exact h2 p hp
      · rw [drop_new (by omega)]; exact h2
  have W3 : ∀ b, n + 3 ≤ b → Wh n b b ((n + 2, .row 1 [.int .i64 0]) :: (n + 1, .row 1 [.nils]) :: (n, .row 1 [.int .i64 a]) :: h) := fun b hb => (((W0 b (by omega)).cons (r := n) (m := b) (by omega) (Nat.le_refl _) (tame_flat rfl)).cons (r := n + 1) (m := b) (by omega) (Nat.le_refl _) (tame_flat rfl)).cons (r := n + 2) (m := b) (by omega) (Nat.le_refl _) (tame_flat rfl)
  have bad : ∀ c : Int, Wh n (n + 3) (n + 3) ((n + 2, .row 1 [.int .i64 c]) :: (n + 1, .row 1 [.nils]) :: (n, .row 1 [.int .i64 a]) :: h) := fun c => (((W0 (n + 3) (by omega)).cons (r := n) (m := n + 3) (by omega) (Nat.le_refl _) (tame_flat rfl)).cons (r := n + 1) (m := n + 3) (by omega) (Nat.le_refl _) (tame_flat rfl)).cons (r := n + 2) (m := n + 3) (by omega) (Nat.le_refl _) (tame_flat rfl)
  by_cases h1 : a < 0 ∨ 500 < a ∨ 2000 < l.length
  · refine ⟨.tup [.nils, .int .i64 2], _, ?_, hdF (bad 2), .inl ⟨2, by unfold limBad; rw [if_pos h1], rfl⟩⟩
    have F4 := fun m => fin (bad 2) (X := .tup [.nils, .int .i64 2]) rfl m
    rw [f28_eq]; unfold c28; rw [callFn_eq (by rfl)]
    by_cases y1 : a < 0
    · simp (disch := first | assumption | omega | (simp (disch := first | assumption | omega) only [sB, Nat.reduceAdd, Nat.reduceLT, Nat.reduceLeDiff, Nat.reduceEqDiff, Nat.reduceMul, ↓reduceIte]; done) | fail) only [sA, ↓reduceIte, Nat.reduceLT, Nat.reduceEqDiff, Nat.reduceAdd, Nat.reduceLeDiff, y1, F4]
    · by_cases y2 : a > 500
      · simp (disch := first | assumption | omega | (simp (disch := first | assumption | omega) only [sB, Nat.reduceAdd, Nat.reduceLT, Nat.reduceLeDiff, Nat.reduceEqDiff, Nat.reduceMul, ↓reduceIte]; done) | fail) only [sA, ↓reduceIte, Nat.reduceLT, Nat.reduceEqDiff, Nat.reduceAdd, Nat.reduceLeDiff, y1, y2, F4]
      · have y3 : ((l.length : Nat) : Int) > 2000 := by omega
        simp (disch := first | assumption | omega | (simp (disch := first | assumption | omega) only [sB, Nat.reduceAdd, Nat.reduceLT, Nat.reduceLeDiff, Nat.reduceEqDiff, Nat.reduceMul, ↓reduceIte]; done) | fail) only [sA, ↓reduceIte, Nat.reduceLT, Nat.reduceEqDiff, Nat.reduceAdd, Nat.reduceLeDiff, y1, y2, y3, s1, s3, F4]
  · have y1 : ¬ a < 0 := by omega
    have y2 : ¬ a > 500 := by omega
    have y3 : ¬ ((l.length : Nat) : Int) > 2000 := by omega
    have hl2 : l.length ≤ 2000 := by omega
    have H3 : Hp n h (n + 3) ((n + 2, .row 1 [.int .i64 0]) :: (n + 1, .row 1 [.nils]) :: (n, .row 1 [.int .i64 a]) :: h) := (((Hp.start hg).box (r := n) (m := n + 1) (by omega) (by omega) rfl).box (r := n + 1) (m := n + 2) (by omega) (by omega) rfl).box (r := n + 2) (m := n + 3) (by omega) (by omega) rfl
    have ask := fun m (hm : n + 3 ≤ m) => lvAsk m _ (H3.good' hm) a d l ad (S.mono H3 hm) hl2
    rw [f28_eq]; unfold c28; rw [callFn_eq (by rfl)]
    simp (disch := first | assumption | omega | (simp (disch := first | assumption | omega) only [sB, Nat.reduceAdd, Nat.reduceLT, Nat.reduceLeDiff, Nat.reduceEqDiff, Nat.reduceMul, ↓reduceIte]; done) | fail) only [sA, ↓reduceIte, Nat.reduceLT, Nat.reduceEqDiff, Nat.reduceAdd, Nat.reduceLeDiff, y1, y2, y3, s1, s3]
    obtain ⟨X, c, fX, oX, hcall, hcase⟩ := ask (n + 17) (by omega)
    have sX : sub false 1 0 X = X := sub_cell1 fX
    by_cases hc : c = 0
    · subst hc
      rcases hcase with ⟨_, hx⟩ | ⟨_, _, hx⟩ | ⟨hall, hall2, _, rfl⟩
      · exact absurd hx (by decide)
      · exact absurd hx (by decide)
      have hb : limBad a l = none := by
        unfold limBad
        rw [if_neg h1, if_neg (by rw [hall]; decide), if_neg (by rw [hall2]; decide)]
      obtain ⟨na, rfl, hna, _, _, _, hseen⟩ := limBad_none hb
      rw [Int.toNat_natCast]
      have hqs := seen_q hseen
      have hmap : (l.map qm).map qlm = l.map lm := by
        rw [List.map_map]
        exact List.map_congr_left (fun x hx => qlm_qm (hseen x hx).2.1)
      have hok := seen_ok hseen
      rw [← hmap] at hok ⊢
      generalize l.map qm = qs at hcall hqs hmap hok ⊢
      have hql : qs.length ≤ 2000 := by
        have := congrArg List.length hmap
        rw [List.length_map, List.length_map] at this
        omega
      have hmk : ∀ m hh, natR (mkslD m hh 1 8 (.int .i64 0)) (.int .i64 (na : Int)) = .ok (.ms 1 m 0 na false) m ((m, .row 1 ((List.replicate na (0 : Int)).map encN)) :: hh) := fun m hh => mk_row (by omega)
      simp (disch := first | assumption | omega | (simp (disch := first | assumption | omega) only [sB, Nat.reduceAdd, Nat.reduceLT, Nat.reduceLeDiff, Nat.reduceEqDiff, Nat.reduceMul, ↓reduceIte]; done) | fail) only [sA, ↓reduceIte, Nat.reduceLT, Nat.reduceEqDiff, Nat.reduceAdd, Nat.reduceLeDiff, hcall, hmk, sX]
      generalize hr : LX (cF Go.Proofs.Try.prog) (.loop l28_0) _ _ _ = r
      have W1 : Wh n (n + 28) (n + 31) ((n + 30, .row 1 [.int .i64 0]) :: (n + 28, .row 1 [.ms 1 (n + 27) 0 na false]) :: (n + 27, .row 1 ((List.replicate na (0 : Int)).map encN)) :: (n + 21, .row 1 [.agg [slD 4 encQ (Sl.app qs)]]) :: (n + 2, .row 1 [.int .i64 0]) :: (n + 1, .row 1 [.nils]) :: (n, .row 1 [.int .i64 (na : Int)]) :: h) :=
        ((((W3 (n + 28) (by omega)).cons (r := n + 21) (m := n + 28) (by omega) (Nat.le_refl _) (tame_flat (by simp [flat_agg, flat1_slD]))).cons (r := n + 27) (m := n + 28) (by omega) (Nat.le_refl _) tame_row).cons (r := n + 28) (m := n + 29) (by omega) (by omega) (tame_ms (by omega) (by omega))).cons (r := n + 30) (m := n + 31) (by omega) (by omega) (tame_flat rfl)
      obtain ⟨z, e2, n2, h2, rfl, W2, k4, k5, hc⟩ := solRounds (q := n + 27) (r2 := n) (r4 := n + 1) (r5 := n + 2) (r6 := n + 21) (r8 := n + 28) (r9 := n + 30) hr (W1.mono (by omega)) (by omega) (by omega) hqs hql hok ⟨by omega, by omega, by omega, by omega, by omega, by omega, by omega, by omega⟩ (by simp (disch := first | assumption | omega | (simp (disch := first | assumption | omega) only [sB, Nat.reduceAdd, Nat.reduceLT, Nat.reduceLeDiff, Nat.reduceEqDiff, Nat.reduceMul, ↓reduceIte]; done) | fail) only [sA, ↓reduceIte, Nat.reduceLT, Nat.reduceEqDiff, Nat.reduceAdd, Nat.reduceLeDiff]) (by simp (disch := first | assumption | omega | (simp (disch := first | assumption | omega) only [sB, Nat.reduceAdd, Nat.reduceLT, Nat.reduceLeDiff, Nat.reduceEqDiff, Nat.reduceMul, ↓reduceIte]; done) | fail) only [sA, ↓reduceIte, Nat.reduceLT, Nat.reduceEqDiff, Nat.reduceAdd, Nat.reduceLeDiff]) (by simp (disch := first | assumption | omega | (simp (disch := first | assumption | omega) only [sB, Nat.reduceAdd, Nat.reduceLT, Nat.reduceLeDiff, Nat.reduceEqDiff, Nat.reduceMul, ↓reduceIte]; done) | fail) only [sA, ↓reduceIte, Nat.reduceLT, Nat.reduceEqDiff, Nat.reduceAdd, Nat.reduceLeDiff]) (by simp (disch := first | assumption | omega | (simp (disch := first | assumption | omega) only [sB, Nat.reduceAdd, Nat.reduceLT, Nat.reduceLeDiff, Nat.reduceEqDiff, Nat.reduceMul, ↓reduceIte]; done) | fail) only [sA, ↓reduceIte, Nat.reduceLT, Nat.reduceEqDiff, Nat.reduceAdd, Nat.reduceLeDiff]) (by simp (disch := first | assumption | omega | (simp (disch := first | assumption | omega) only [sB, Nat.reduceAdd, Nat.reduceLT, Nat.reduceLeDiff, Nat.reduceEqDiff, Nat.reduceMul, ↓reduceIte]; done) | fail) only [sA, ↓reduceIte, Nat.reduceLT, Nat.reduceEqDiff, Nat.reduceAdd, Nat.reduceLeDiff]) (by simp (disch := first | assumption | omega | (simp (disch := first | assumption | omega) only [sB, Nat.reduceAdd, Nat.reduceLT, Nat.reduceLeDiff, Nat.reduceEqDiff, Nat.reduceMul, ↓reduceIte]; done) | fail) only [sA, ↓reduceIte, Nat.reduceLT, Nat.reduceEqDiff, Nat.reduceAdd, Nat.reduceLeDiff]) (by simp (disch := first | assumption | omega | (simp (disch := first | assumption | omega) only [sB, Nat.reduceAdd, Nat.reduceLT, Nat.reduceLeDiff, Nat.reduceEqDiff, Nat.reduceMul, ↓reduceIte]; done) | fail) only [sA, ↓reduceIte, Nat.reduceLT, Nat.reduceEqDiff, Nat.reduceAdd, Nat.reduceLeDiff]) (by simp (disch := first | assumption | omega | (simp (disch := first | assumption | omega) only [sB, Nat.reduceAdd, Nat.reduceLT, Nat.reduceLeDiff, Nat.reduceEqDiff, Nat.reduceMul, ↓reduceIte]; done) | fail) only [sA, ↓reduceIte, Nat.reduceLT, Nat.reduceEqDiff, Nat.reduceAdd, Nat.reduceLeDiff]) (by simp (disch := first | assumption | omega | (simp (disch := first | assumption | omega) only [sB, Nat.reduceAdd, Nat.reduceLT, Nat.reduceLeDiff, Nat.reduceEqDiff, Nat.reduceMul, ↓reduceIte]; done) | fail) only [sA, ↓reduceIte, Nat.reduceLT, Nat.reduceEqDiff, Nat.reduceAdd, Nat.reduceLeDiff]) (by simp (disch := first | assumption | omega | (simp (disch := first | assumption | omega) only [sB, Nat.reduceAdd, Nat.reduceLT, Nat.reduceLeDiff, Nat.reduceEqDiff, Nat.reduceMul, ↓reduceIte]; done) | fail) only [sA, ↓reduceIte, Nat.reduceLT, Nat.reduceEqDiff, Nat.reduceAdd, Nat.reduceLeDiff]) (by simp (disch := first | assumption | omega | (simp (disch := first | assumption | omega) only [sB, Nat.reduceAdd, Nat.reduceLT, Nat.reduceLeDiff, Nat.reduceEqDiff, Nat.reduceMul, ↓reduceIte]; done) | fail) only [sA, ↓reduceIte, Nat.reduceLT, Nat.reduceEqDiff, Nat.reduceAdd, Nat.reduceLeDiff]) (by simp (disch := first | assumption | omega | (simp (disch := first | assumption | omega) only [sB, Nat.reduceAdd, Nat.reduceLT, Nat.reduceLeDiff, Nat.reduceEqDiff, Nat.reduceMul, ↓reduceIte]; done) | fail) only [sA, ↓reduceIte, Nat.reduceLT, Nat.reduceEqDiff, Nat.reduceAdd, Nat.reduceLeDiff]) (by simp (disch := first | assumption | omega | (simp (disch := first | assumption | omega) only [sB, Nat.reduceAdd, Nat.reduceLT, Nat.reduceLeDiff, Nat.reduceEqDiff, Nat.reduceMul, ↓reduceIte]; done) | fail) only [sA, ↓reduceIte, Nat.reduceLT, Nat.reduceEqDiff, Nat.reduceAdd, Nat.reduceLeDiff])
      rcases hc with ⟨rfl, w, hrun, c4, c5, c6, c8, cq, k6, k8⟩ | ⟨rfl, hrun, c4, c5⟩
      · have hw := (runP_some hok hrun (zero_nums na) w rfl).2
        simp (disch := first | assumption | omega | (simp (disch := first | assumption | omega) only [sB, Nat.reduceAdd, Nat.reduceLT, Nat.reduceLeDiff, Nat.reduceEqDiff, Nat.reduceMul, ↓reduceIte]; done) | fail) only [sA, ↓reduceIte, Nat.reduceLT, Nat.reduceEqDiff, Nat.reduceAdd, Nat.reduceLeDiff, k6, c6, app_el]
        generalize hr : LX (cF Go.Proofs.Try.prog) (.loop l28_1) _ _ _ = r
        obtain ⟨z, e3, n3, h3, rfl, W3', m4, m5, hc⟩ := solNums (q := n + 27) (r4 := n + 1) (r5 := n + 2) (r8 := n + 28) hr (W2.mono (by omega)) (by omega) (by omega) hqs hql hw ⟨by omega, by omega, by omega, by omega, by have := W2.1; omega⟩ c4 c5 c8 cq (by simp (disch := first | assumption | omega | (simp (disch := first | assumption | omega) only [sB, Nat.reduceAdd, Nat.reduceLT, Nat.reduceLeDiff, Nat.reduceEqDiff, Nat.reduceMul, ↓reduceIte]; done) | fail) only [sA, ↓reduceIte, Nat.reduceLT, Nat.reduceEqDiff, Nat.reduceAdd, Nat.reduceLeDiff, k4]) (by simp (disch := first | assumption | omega | (simp (disch := first | assumption | omega) only [sB, Nat.reduceAdd, Nat.reduceLT, Nat.reduceLeDiff, Nat.reduceEqDiff, Nat.reduceMul, ↓reduceIte]; done) | fail) only [sA, ↓reduceIte, Nat.reduceLT, Nat.reduceEqDiff, Nat.reduceAdd, Nat.reduceLeDiff, k5]) (by simp (disch := first | assumption | omega | (simp (disch := first | assumption | omega) only [sB, Nat.reduceAdd, Nat.reduceLT, Nat.reduceLeDiff, Nat.reduceEqDiff, Nat.reduceMul, ↓reduceIte]; done) | fail) only [sA, ↓reduceIte, Nat.reduceLT, Nat.reduceEqDiff, Nat.reduceAdd, Nat.reduceLeDiff, k8]) (by simp (disch := first | assumption | omega | (simp (disch := first | assumption | omega) only [sB, Nat.reduceAdd, Nat.reduceLT, Nat.reduceLeDiff, Nat.reduceEqDiff, Nat.reduceMul, ↓reduceIte]; done) | fail) only [sA, ↓reduceIte, Nat.reduceLT, Nat.reduceEqDiff, Nat.reduceAdd, Nat.reduceLeDiff]) (by simp (disch := first | assumption | omega | (simp (disch := first | assumption | omega) only [sB, Nat.reduceAdd, Nat.reduceLT, Nat.reduceLeDiff, Nat.reduceEqDiff, Nat.reduceMul, ↓reduceIte]; done) | fail) only [sA, ↓reduceIte, Nat.reduceLT, Nat.reduceEqDiff, Nat.reduceAdd, Nat.reduceLeDiff]) (by simp (disch := first | assumption | omega | (simp (disch := first | assumption | omega) only [sB, Nat.reduceAdd, Nat.reduceLT, Nat.reduceLeDiff, Nat.reduceEqDiff, Nat.reduceMul, ↓reduceIte]; done) | fail) only [sA, ↓reduceIte, Nat.reduceLT, Nat.reduceEqDiff, Nat.reduceAdd, Nat.reduceLeDiff])
        rcases hc with ⟨rfl, hno, d4, d5, d8, dq, m8⟩ | ⟨rfl, hno, d4, d5⟩
        · have e5 : getO (setO h3 (n + 1) (.row 1 [.ms 1 (n + 27) 0 na false])) (n + 2) = .row 1 [.int .i64 0] := getO_set2 d4 d5 (by omega)
          have hbN : n + 28 ≤ n3 := W3'.1
          have hS : Wh n (n + 28) n3 (setO (setO h3 (n + 1) (.row 1 [.ms 1 (n + 27) 0 na false])) (n + 2) (.row 1 [.int .i64 0])) := (W3'.set (tame_ms (by omega) (by omega))).set (tame_flat rfl)
          have e4 : getO (setO (setO h3 (n + 1) (.row 1 [.ms 1 (n + 27) 0 na false])) (n + 2) (.row 1 [.int .i64 0])) (n + 1) = .row 1 [.ms 1 (n + 27) 0 na false] := getO_set2 e5 (getO_set1 d4) (by omega)
          have e5' : getO (setO (setO h3 (n + 1) (.row 1 [.ms 1 (n + 27) 0 na false])) (n + 2) (.row 1 [.int .i64 0])) (n + 2) = .row 1 [.int .i64 0] := getO_set1 e5
          have eq : getO (setO (setO h3 (n + 1) (.row 1 [.ms 1 (n + 27) 0 na false])) (n + 2) (.row 1 [.int .i64 0])) (n + 27) = .row 1 (w.map encN) := getO_set2 e5 (getO_set2 d4 dq (by omega)) (by omega)
          generalize hh : setO (setO h3 (n + 1) (.row 1 [.ms 1 (n + 27) 0 na false])) (n + 2) (.row 1 [.int .i64 0]) = H4 at hS e4 e5' eq
          have hf : Fz 3 n H4 (.ms 1 (n + 27) 0 na false) (.sl 1 (w.map encN) [] false) := by
            have := Fz.ms (full := false) elemN (show n ≤ n + 27 by omega) eq
            rw [hw.1] at this
            exact this
          have F4 := fun m => finishD_fz (n := m) (Fz.tup (.cons hf (.cons ((Fz.of1 (d := .int .i64 0) rfl).mono (show 1 ≤ 3 by omega)) .nil))) (by omega) hS.leak0
          simp (disch := first | assumption | omega | (simp (disch := first | assumption | omega) only [sB, Nat.reduceAdd, Nat.reduceLT, Nat.reduceLeDiff, Nat.reduceEqDiff, Nat.reduceMul, ↓reduceIte]; done) | fail) only [sA, ↓reduceIte, Nat.reduceLT, Nat.reduceEqDiff, Nat.reduceAdd, Nat.reduceLeDiff, m4, m5, m8, d4, d8, e5, hh, e4, e5', F4]
          exact ⟨_, _, rfl, hdF hS, .inr ⟨hb, some w, hrun, .inr ⟨w, rfl, .inl ⟨hno, rfl⟩⟩⟩⟩
        · have F4 := fun m => fin W3' (X := .tup [.nils, .int .i64 52]) rfl m
          simp (disch := first | assumption | omega | (simp (disch := first | assumption | omega) only [sB, Nat.reduceAdd, Nat.reduceLT, Nat.reduceLeDiff, Nat.reduceEqDiff, Nat.reduceMul, ↓reduceIte]; done) | fail) only [sA, ↓reduceIte, Nat.reduceLT, Nat.reduceEqDiff, Nat.reduceAdd, Nat.reduceLeDiff, m4, m5, d4, d5, F4]
          exact ⟨_, _, rfl, hdF W3', .inr ⟨hb, some w, hrun, .inr ⟨w, rfl, .inr ⟨hno, rfl⟩⟩⟩⟩
      · have F4 := fun m => fin W2 (X := .tup [.nils, .int .i64 52]) rfl m
        simp (disch := first | assumption | omega | (simp (disch := first | assumption | omega) only [sB, Nat.reduceAdd, Nat.reduceLT, Nat.reduceLeDiff, Nat.reduceEqDiff, Nat.reduceMul, ↓reduceIte]; done) | fail) only [sA, ↓reduceIte, Nat.reduceLT, Nat.reduceEqDiff, Nat.reduceAdd, Nat.reduceLeDiff, k4, k5, c4, c5, F4]
        exact ⟨_, _, rfl, hdF W2, .inr ⟨hb, none, hrun, .inl ⟨rfl, rfl⟩⟩⟩
    · simp (disch := first | assumption | omega | (simp (disch := first | assumption | omega) only [sB, Nat.reduceAdd, Nat.reduceLT, Nat.reduceLeDiff, Nat.reduceEqDiff, Nat.reduceMul, ↓reduceIte]; done) | fail) only [sA, ↓reduceIte, Nat.reduceLT, Nat.reduceEqDiff, Nat.reduceAdd, Nat.reduceLeDiff, hcall, hc, oX]
      refine ⟨_, _, rfl, hF, .inl ⟨c, ?_, rfl⟩⟩
      unfold limBad
      rw [if_neg h1]
      rcases hcase with ⟨h2, rfl⟩ | ⟨h2, h3, rfl⟩ | ⟨_, _, hx, _⟩
      · rw [if_pos h2]
      · rw [if_neg (by rw [h2]; decide), if_pos h3]
      · exact absurd hx hc
end Go.Proofs.Ytjagmfgjlfkmgaa
