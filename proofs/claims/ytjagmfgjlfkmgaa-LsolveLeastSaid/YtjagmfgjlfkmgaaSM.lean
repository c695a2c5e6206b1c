/- LsolveLeast: the least numbers for which all limits hold, or that there are none, or what is wrong. No condition. -/
import Derived.Test.YtjagmfgjlfkmgaaS2
import Derived.Test.YtjagmfgjlfkmgaaTS
import Derived.Test.YtjagmfgjlfkmgaaL1
set_option linter.unusedSimpArgs false
set_option linter.unusedVariables false
namespace Go.Proofs.Ytjagmfgjlfkmgaa
open Go Go.ChangeShapes Go.WideShapes Go.ChangeAt Go.RowKit

theorem sAlive : callFn (LX (cF Go.Proofs.Try.prog)) 2 [] [] ((cF Go.Proofs.Try.prog) 27) = .ok (.bool true) 2 [] := by
  have h : callFn (exec (tS.look (cF Go.Proofs.Try.prog)) 1000) 2 [] [] (tS.look (cF Go.Proofs.Try.prog) 27) = .ok (.bool true) 2 [] := by kernel_rfl
  rw [Tb.look_eq tS_ok] at h
  exact callFn_LX _ h
theorem sNum {m : Nat} {h : Hps} (hg : ∀ k, m ≤ k → GoodAt k h) (a : Int) : callFn (LX (cF Go.Proofs.Try.prog)) m h [.int .i64 a] (cF Go.Proofs.Try.prog 30) = .ok (.int .i64 a) m h := by
  have hgn := hg m (Nat.le_refl _)
  rw [f30_eq]; unfold c30; rw [callFn_eq (by rfl)]
  simp (disch := first | assumption | omega | (simp (disch := first | assumption | omega) only [sB, Nat.reduceAdd, Nat.reduceLT, Nat.reduceLeDiff, Nat.reduceEqDiff, Nat.reduceMul, ↓reduceIte]; done) | fail) only [sA, ↓reduceIte, Nat.reduceLT, Nat.reduceEqDiff, Nat.reduceAdd, Nat.reduceLeDiff]
/-- both tell one thing -/
theorem lim_same {a : Int} {l : List SLim} {n m : Nat} {h g : Hps} (hb : limBad a l = none) {r : Option (List Int)} {X : D} (hr : RunR (l.map lm) (List.replicate a.toNat 0) r)
    (hp : ∃ p, RunP a.toNat (l.map lm) 0 (List.replicate a.toNat 0) p ∧ ((p = none ∧ X = limD none) ∨ ∃ w, p = some w ∧ ((NumsOk (l.map lm) w ∧ X = limD (some w)) ∨ (¬ NumsOk (l.map lm) w ∧ X = limD none)))) : X = limD r ∧ ∀ w, r = some w → w.length = a.toNat := by
  obtain ⟨na, rfl, _, _, _, _, hs⟩ := limBad_none hb
  rw [Int.toNat_natCast] at hr hp ⊢
  have hok := seen_ok hs
  obtain ⟨p, hp, hc⟩ := hp
  obtain ⟨h1, h2⟩ := runs_same hok hr hp
  cases r with
  | none =>
    refine ⟨?_, fun w h => by cases h⟩
    rcases hc with ⟨_, rfl⟩ | ⟨w, rfl, ⟨hno, rfl⟩ | ⟨_, rfl⟩⟩
    · rfl
    · exact absurd hno (h2 rfl w rfl)
    · rfl
  | some L =>
    obtain ⟨rfl, hno⟩ := h1 L rfl
    have hn := (runP_some hok hp (zero_nums na) L rfl).2.1
    refine ⟨?_, fun w h => by cases h; exact hn⟩
    rcases hc with ⟨hx, _⟩ | ⟨w, hw, ⟨_, rfl⟩ | ⟨hx, _⟩⟩
    · cases hx
    · cases hw; rfl
    · cases hw; exact absurd hno hx

set_option maxHeartbeats 8000000 in
set_option maxRecDepth 8000 in
theorem sl_run (a : Int) (s : Sl SLim) : ∃ n' h', callFn (LX (cF Go.Proofs.Try.prog)) 0 [] [.int .i64 a, slD 4 encM s] ((cF Go.Proofs.Try.prog) 6) = .ok (.bool true) n' h' := by
  rw [f6_eq]; unfold c6; rw [callFn_eq (by rfl)]
  by_cases y1 : ((s.el.length : Nat) : Int) > 2100
  · simp (disch := first | assumption | omega | (simp (disch := first | assumption | omega) only [sB, Nat.reduceAdd, Nat.reduceLT, Nat.reduceLeDiff, Nat.reduceEqDiff, Nat.reduceMul, ↓reduceIte]; done) | fail) only [sA, ↓reduceIte, Nat.reduceLT, Nat.reduceEqDiff, Nat.reduceAdd, Nat.reduceLeDiff, sAlive, y1]
    exact ⟨_, _, rfl⟩
  by_cases y2 : a > 600
  · simp (disch := first | assumption | omega | (simp (disch := first | assumption | omega) only [sB, Nat.reduceAdd, Nat.reduceLT, Nat.reduceLeDiff, Nat.reduceEqDiff, Nat.reduceMul, ↓reduceIte]; done) | fail) only [sA, ↓reduceIte, Nat.reduceLT, Nat.reduceEqDiff, Nat.reduceAdd, Nat.reduceLeDiff, sAlive, y1, y2]
    exact ⟨_, _, rfl⟩
  simp (disch := first | assumption | omega | (simp (disch := first | assumption | omega) only [sB, Nat.reduceAdd, Nat.reduceLT, Nat.reduceLeDiff, Nat.reduceEqDiff, Nat.reduceMul, ↓reduceIte]; done) | fail) only [sA, ↓reduceIte, Nat.reduceLT, Nat.reduceEqDiff, Nat.reduceAdd, Nat.reduceLeDiff, sAlive, y1, y2]
  generalize hr : LX (cF Go.Proofs.Try.prog) (.loop l6_0) _ _ _ = r
  obtain ⟨x, e2, n2, h2, rfl, rfl, hc⟩ := loop_up hr s.el.length
    (fun i e n' h' => h' = [] ∧ (∀ x, x ∈ s.el.take i → limSize x) ∧ get (po 0) e = .int .i64 a ∧ get (po 1) e = slD 4 encM s ∧ get (po 6) e = .int .i64 (i : Nat))
    (fun x e n' h' => h' = [] ∧ ((x = .exit 0 ∧ (∀ x, x ∈ s.el → limSize x) ∧ get (po 0) e = .int .i64 a ∧ get (po 1) e = slD 4 encM s) ∨ (x = .ret ∧ get (po 4) e = .bool true)))
    (by
      rintro e n' h' ⟨rfl, hz, g0, g1, g6⟩
      rw [List.take_length] at hz
      unfold l6_0
      simp (disch := first | assumption | omega | (simp (disch := first | assumption | omega) only [sB, Nat.reduceAdd, Nat.reduceLT, Nat.reduceLeDiff, Nat.reduceEqDiff, Nat.reduceMul, ↓reduceIte]; done) | fail) only [sA, ↓reduceIte, Nat.reduceLT, Nat.reduceEqDiff, Nat.reduceAdd, Nat.reduceLeDiff, g1, g6]
      exact ⟨_, _, _, _, rfl, by simp, rfl, .inl ⟨rfl, hz, by simp (disch := first | assumption | omega | (simp (disch := first | assumption | omega) only [sB, Nat.reduceAdd, Nat.reduceLT, Nat.reduceLeDiff, Nat.reduceEqDiff, Nat.reduceMul, ↓reduceIte]; done) | fail) only [sA, ↓reduceIte, Nat.reduceLT, Nat.reduceEqDiff, Nat.reduceAdd, Nat.reduceLeDiff, g0], by simp (disch := first | assumption | omega | (simp (disch := first | assumption | omega) only [sB, Nat.reduceAdd, Nat.reduceLT, Nat.reduceLeDiff, Nat.reduceEqDiff, Nat.reduceMul, ↓reduceIte]; done) | fail) only [sA, ↓reduceIte, Nat.reduceLT, Nat.reduceEqDiff, Nat.reduceAdd, Nat.reduceLeDiff, g1]⟩⟩)
    (by
      rintro i e n' h' hi ⟨rfl, hz, g0, g1, g6⟩
      have htk : ∀ x, x ∈ s.el.take (i + 1) → x ∈ s.el.take i ∨ x = s.el[i] := fun x hx => by
        rw [List.take_succ_eq_append_getElem hi] at hx
        rcases List.mem_append.1 hx with hx | hx
        · exact .inl hx
        · exact .inr (List.mem_singleton.1 hx)
      generalize hW : s.el[i] = W at htk
      obtain ⟨⟨an, av⟩, ⟨bn, bv⟩⟩ := W
      unfold l6_0
      by_cases z1 : ((av.el.length : Nat) : Int) > 100
      · simp (disch := first | assumption | omega | (simp (disch := first | assumption | omega) only [sB, Nat.reduceAdd, Nat.reduceLT, Nat.reduceLeDiff, Nat.reduceEqDiff, Nat.reduceMul, ↓reduceIte]; done) | fail) only [sA, ↓reduceIte, Nat.reduceLT, Nat.reduceEqDiff, Nat.reduceAdd, Nat.reduceLeDiff, g1, g6, hW, encM, z1]
        exact ⟨_, _, _, _, rfl, .inr ⟨by simp, rfl, .inr ⟨rfl, by simp (disch := first | assumption | omega | (simp (disch := first | assumption | omega) only [sB, Nat.reduceAdd, Nat.reduceLT, Nat.reduceLeDiff, Nat.reduceEqDiff, Nat.reduceMul, ↓reduceIte]; done) | fail) only [sA, ↓reduceIte, Nat.reduceLT, Nat.reduceEqDiff, Nat.reduceAdd, Nat.reduceLeDiff]⟩⟩⟩
      · by_cases z2 : ((bv.el.length : Nat) : Int) > 100
        · simp (disch := first | assumption | omega | (simp (disch := first | assumption | omega) only [sB, Nat.reduceAdd, Nat.reduceLT, Nat.reduceLeDiff, Nat.reduceEqDiff, Nat.reduceMul, ↓reduceIte]; done) | fail) only [sA, ↓reduceIte, Nat.reduceLT, Nat.reduceEqDiff, Nat.reduceAdd, Nat.reduceLeDiff, g1, g6, hW, encM, z1, z2]
          exact ⟨_, _, _, _, rfl, .inr ⟨by simp, rfl, .inr ⟨rfl, by simp (disch := first | assumption | omega | (simp (disch := first | assumption | omega) only [sB, Nat.reduceAdd, Nat.reduceLT, Nat.reduceLeDiff, Nat.reduceEqDiff, Nat.reduceMul, ↓reduceIte]; done) | fail) only [sA, ↓reduceIte, Nat.reduceLT, Nat.reduceEqDiff, Nat.reduceAdd, Nat.reduceLeDiff]⟩⟩⟩
        · simp (disch := first | assumption | omega | (simp (disch := first | assumption | omega) only [sB, Nat.reduceAdd, Nat.reduceLT, Nat.reduceLeDiff, Nat.reduceEqDiff, Nat.reduceMul, ↓reduceIte]; done) | fail) only [sA, ↓reduceIte, Nat.reduceLT, Nat.reduceEqDiff, Nat.reduceAdd, Nat.reduceLeDiff, g1, g6, hW, encM, z1, z2]
          exact ⟨_, _, _, _, rfl, .inl ⟨rfl, rfl, fun x hx => by
            rcases htk x hx with hx | rfl
            · exact hz x hx
            · exact ⟨by show av.el.length ≤ 1000; omega, by show bv.el.length ≤ 1000; omega⟩, by simp (disch := first | assumption | omega | (simp (disch := first | assumption | omega) only [sB, Nat.reduceAdd, Nat.reduceLT, Nat.reduceLeDiff, Nat.reduceEqDiff, Nat.reduceMul, ↓reduceIte]; done) | fail) only [sA, ↓reduceIte, Nat.reduceLT, Nat.reduceEqDiff, Nat.reduceAdd, Nat.reduceLeDiff, g0], by simp (disch := first | assumption | omega | (simp (disch := first | assumption | omega) only [sB, Nat.reduceAdd, Nat.reduceLT, Nat.reduceLeDiff, Nat.reduceEqDiff, Nat.reduceMul, ↓reduceIte]; done) | fail) only [sA, ↓reduceIte, Nat.reduceLT, Nat.reduceEqDiff, Nat.reduceAdd, Nat.reduceLeDiff, g1], by simp (disch := first | assumption | omega | (simp (disch := first | assumption | omega) only [sB, Nat.reduceAdd, Nat.reduceLT, Nat.reduceLeDiff, Nat.reduceEqDiff, Nat.reduceMul, ↓reduceIte]; done) | fail) only [sA, ↓reduceIte, Nat.reduceLT, Nat.reduceEqDiff, Nat.reduceAdd, Nat.reduceLeDiff]⟩⟩)
    ⟨rfl, fun x hx => by simp at hx, by simp (disch := first | assumption | omega | (simp (disch := first | assumption | omega) only [sB, Nat.reduceAdd, Nat.reduceLT, Nat.reduceLeDiff, Nat.reduceEqDiff, Nat.reduceMul, ↓reduceIte]; done) | fail) only [sA, ↓reduceIte, Nat.reduceLT, Nat.reduceEqDiff, Nat.reduceAdd, Nat.reduceLeDiff], by simp (disch := first | assumption | omega | (simp (disch := first | assumption | omega) only [sB, Nat.reduceAdd, Nat.reduceLT, Nat.reduceLeDiff, Nat.reduceEqDiff, Nat.reduceMul, ↓reduceIte]; done) | fail) only [sA, ↓reduceIte, Nat.reduceLT, Nat.reduceEqDiff, Nat.reduceAdd, Nat.reduceLeDiff], by simp (disch := first | assumption | omega | (simp (disch := first | assumption | omega) only [sB, Nat.reduceAdd, Nat.reduceLT, Nat.reduceLeDiff, Nat.reduceEqDiff, Nat.reduceMul, ↓reduceIte]; done) | fail) only [sA, ↓reduceIte, Nat.reduceLT, Nat.reduceEqDiff, Nat.reduceAdd, Nat.reduceLeDiff]⟩
  rcases hc with ⟨rfl, hz, g0, g1⟩ | ⟨rfl, g4⟩
  case inr =>
    simp (disch := first | assumption | omega | (simp (disch := first | assumption | omega) only [sB, Nat.reduceAdd, Nat.reduceLT, Nat.reduceLeDiff, Nat.reduceEqDiff, Nat.reduceMul, ↓reduceIte]; done) | fail) only [sA, ↓reduceIte, Nat.reduceLT, Nat.reduceEqDiff, Nat.reduceAdd, Nat.reduceLeDiff, g4]
    exact ⟨_, _, rfl⟩
  have hl : s.el.length < 1000000000 := by omega
  obtain ⟨X, h', hsol, hF, hcase⟩ := lvSolve (n2 + 3) [] (fun p hp => by cases hp) a (slD 4 encM s) s.el _ (Sv.slD aggM) hz hl
  have hG : ∀ m, n2 + 3 ≤ m → ∀ k, m ≤ k → GoodAt k h' := fun m hm k hk p hp => ⟨by have := (hF p hp).1; omega, (hF p hp).2 k⟩
  have key : (∀ m, n2 + 3 ≤ m → callFn (LX (cF Go.Proofs.Try.prog)) m h' [.int .i64 a, slD 4 encM s] (cF Go.Proofs.Try.prog 29) = .ok X m h') ∧ ((∃ c : Int, X = .tup [.nils, .int .i64 c]) ∨ ∃ w : List Int, w.length ≤ 500 ∧ X = .tup [slD 1 encN ⟨false, false, w, []⟩, .int .i64 0]) := by
    rcases hcase with ⟨c, hb, rfl⟩ | ⟨hb, hp⟩
    · exact ⟨fun m hm => (refLimits m h' (hG m hm) a s hz hl).1 c hb, .inl ⟨c, rfl⟩⟩
    · obtain ⟨na, e, hna, _⟩ := limBad_none hb
      refine ⟨fun m hm => ?_, ?_⟩
      · obtain ⟨r, hr, hcl⟩ := (refLimits m h' (hG m hm) a s hz hl).2 hb
        rw [hcl, (lim_same (n := 0) (m := 0) (h := []) (g := []) hb hr hp).1]
      · obtain ⟨r, hr, _⟩ := (refLimits (n2 + 3) h' (hG _ (Nat.le_refl _)) a s hz hl).2 hb
        obtain ⟨e1, e2⟩ := lim_same (n := 0) (m := 0) (h := []) (g := []) hb hr hp
        rw [e1]
        cases r with
        | none => exact .inl ⟨52, rfl⟩
        | some w => exact .inr ⟨w, by rw [e2 w rfl]; omega, rfl⟩
  obtain ⟨hlim, hX⟩ := key
  have num : ∀ m c, n2 + 3 ≤ m → callFn (LX (cF Go.Proofs.Try.prog)) m h' [.int .i64 c] (cF Go.Proofs.Try.prog 30) = .ok (.int .i64 c) m h' := fun m c hm => sNum (hG m hm) c
  have HF : Hp 0 [] (n2 + 3) h' := ⟨Nat.zero_le _, hG _ (Nat.le_refl _), by
    clear hsol hlim num hG hF
    induction h' with
    | nil => rfl
    | cons p t ih => rw [show p = (p.1, p.2) from rfl, drop_new (Nat.zero_le _)]; exact ih, by
    clear hsol hlim num hG hF
    induction h' with
    | nil => rfl
    | cons p t ih => rw [show p = (p.1, p.2) from rfl, leak_new (Nat.zero_le _)]; exact ih⟩
  have F4 := fun m hm => finish_flat (d := .bool true) rfl (HF.mono (m := m) hm)
  rcases hX with ⟨c, rfl⟩ | ⟨w, hw, rfl⟩
  · simp (disch := first | assumption | omega | (simp (disch := first | assumption | omega) only [sB, Nat.reduceAdd, Nat.reduceLT, Nat.reduceLeDiff, Nat.reduceEqDiff, Nat.reduceMul, ↓reduceIte]; done) | fail) only [sA, ↓reduceIte, Nat.reduceLT, Nat.reduceEqDiff, Nat.reduceAdd, Nat.reduceLeDiff, g0, g1, hsol, hlim, num]
    generalize hr : LX (cF Go.Proofs.Try.prog) (.loop l6_1) _ _ _ = r
    obtain ⟨x, e3, n3, h3, rfl, rfl, rfl, hn⟩ := loop_up hr 0
      (fun i e n' h'' => h'' = h' ∧ n2 + 3 ≤ n' ∧ get (po 7) e = .nils ∧ get (po 11) e = .int .i64 0)
      (fun x e n' h'' => x = .exit 2 ∧ h'' = h' ∧ n2 + 3 ≤ n')
      (by
        rintro e n' h'' ⟨rfl, hn, k7, k11⟩
        unfold l6_1
        simp (disch := first | assumption | omega | (simp (disch := first | assumption | omega) only [sB, Nat.reduceAdd, Nat.reduceLT, Nat.reduceLeDiff, Nat.reduceEqDiff, Nat.reduceMul, ↓reduceIte]; done) | fail) only [sA, ↓reduceIte, Nat.reduceLT, Nat.reduceEqDiff, Nat.reduceAdd, Nat.reduceLeDiff, k7, k11]
        exact ⟨_, _, _, _, rfl, by simp, rfl, rfl, by omega⟩)
      (fun i e n h hi => absurd hi (Nat.not_lt_zero _)) ⟨rfl, by omega, by simp (disch := first | assumption | omega | (simp (disch := first | assumption | omega) only [sB, Nat.reduceAdd, Nat.reduceLT, Nat.reduceLeDiff, Nat.reduceEqDiff, Nat.reduceMul, ↓reduceIte]; done) | fail) only [sA, ↓reduceIte, Nat.reduceLT, Nat.reduceEqDiff, Nat.reduceAdd, Nat.reduceLeDiff], by simp (disch := first | assumption | omega | (simp (disch := first | assumption | omega) only [sB, Nat.reduceAdd, Nat.reduceLT, Nat.reduceLeDiff, Nat.reduceEqDiff, Nat.reduceMul, ↓reduceIte]; done) | fail) only [sA, ↓reduceIte, Nat.reduceLT, Nat.reduceEqDiff, Nat.reduceAdd, Nat.reduceLeDiff]⟩
    simp (disch := first | assumption | omega | (simp (disch := first | assumption | omega) only [sB, Nat.reduceAdd, Nat.reduceLT, Nat.reduceLeDiff, Nat.reduceEqDiff, Nat.reduceMul, ↓reduceIte]; done) | fail) only [sA, ↓reduceIte, Nat.reduceLT, Nat.reduceEqDiff, Nat.reduceAdd, Nat.reduceLeDiff, F4]
    exact ⟨_, _, rfl⟩
  · simp (disch := first | assumption | omega | (simp (disch := first | assumption | omega) only [sB, Nat.reduceAdd, Nat.reduceLT, Nat.reduceLeDiff, Nat.reduceEqDiff, Nat.reduceMul, ↓reduceIte]; done) | fail) only [sA, ↓reduceIte, Nat.reduceLT, Nat.reduceEqDiff, Nat.reduceAdd, Nat.reduceLeDiff, g0, g1, hsol, hlim, num]
    generalize hr : LX (cF Go.Proofs.Try.prog) (.loop l6_1) _ _ _ = r
    obtain ⟨x, e3, n3, h3, rfl, rfl, rfl, hn⟩ := loop_up hr w.length
      (fun i e n' h'' => h'' = h' ∧ n2 + 3 ≤ n' ∧ get (po 7) e = slD 1 encN ⟨false, false, w, []⟩ ∧ get (po 9) e = slD 1 encN ⟨false, false, w, []⟩ ∧ get (po 11) e = .int .i64 (i : Nat))
      (fun x e n' h'' => x = .exit 2 ∧ h'' = h' ∧ n2 + 3 ≤ n')
      (by
        rintro e n' h'' ⟨rfl, hn, k7, k9, k11⟩
        unfold l6_1
        simp (disch := first | assumption | omega | (simp (disch := first | assumption | omega) only [sB, Nat.reduceAdd, Nat.reduceLT, Nat.reduceLeDiff, Nat.reduceEqDiff, Nat.reduceMul, ↓reduceIte]; done) | fail) only [sA, ↓reduceIte, Nat.reduceLT, Nat.reduceEqDiff, Nat.reduceAdd, Nat.reduceLeDiff, k7, k11]
        exact ⟨_, _, _, _, rfl, by simp, rfl, rfl, by omega⟩)
      (by
        rintro i e n' h'' hi ⟨rfl, hn, k7, k9, k11⟩
        have el : (⟨false, false, w, []⟩ : Sl Int).el = w := rfl
        unfold l6_1
        simp (disch := first | assumption | omega | (simp (disch := first | assumption | omega) only [sB, Nat.reduceAdd, Nat.reduceLT, Nat.reduceLeDiff, Nat.reduceEqDiff, Nat.reduceMul, ↓reduceIte, el, hi]; done) | fail) only [sA, ↓reduceIte, Nat.reduceLT, Nat.reduceEqDiff, Nat.reduceAdd, Nat.reduceLeDiff, k7, k9, k11, encN, el, hi]
        exact ⟨_, _, _, _, rfl, .inl ⟨rfl, rfl, by omega, by simp (disch := first | assumption | omega | (simp (disch := first | assumption | omega) only [sB, Nat.reduceAdd, Nat.reduceLT, Nat.reduceLeDiff, Nat.reduceEqDiff, Nat.reduceMul, ↓reduceIte]; done) | fail) only [sA, ↓reduceIte, Nat.reduceLT, Nat.reduceEqDiff, Nat.reduceAdd, Nat.reduceLeDiff, k7], by simp (disch := first | assumption | omega | (simp (disch := first | assumption | omega) only [sB, Nat.reduceAdd, Nat.reduceLT, Nat.reduceLeDiff, Nat.reduceEqDiff, Nat.reduceMul, ↓reduceIte]; done) | fail) only [sA, ↓reduceIte, Nat.reduceLT, Nat.reduceEqDiff, Nat.reduceAdd, Nat.reduceLeDiff, k9], by simp (disch := first | assumption | omega | (simp (disch := first | assumption | omega) only [sB, Nat.reduceAdd, Nat.reduceLT, Nat.reduceLeDiff, Nat.reduceEqDiff, Nat.reduceMul, ↓reduceIte]; done) | fail) only [sA, ↓reduceIte, Nat.reduceLT, Nat.reduceEqDiff, Nat.reduceAdd, Nat.reduceLeDiff]⟩⟩)
      ⟨rfl, by omega, by simp (disch := first | assumption | omega | (simp (disch := first | assumption | omega) only [sB, Nat.reduceAdd, Nat.reduceLT, Nat.reduceLeDiff, Nat.reduceEqDiff, Nat.reduceMul, ↓reduceIte]; done) | fail) only [sA, ↓reduceIte, Nat.reduceLT, Nat.reduceEqDiff, Nat.reduceAdd, Nat.reduceLeDiff], by simp (disch := first | assumption | omega | (simp (disch := first | assumption | omega) only [sB, Nat.reduceAdd, Nat.reduceLT, Nat.reduceLeDiff, Nat.reduceEqDiff, Nat.reduceMul, ↓reduceIte]; done) | fail) only [sA, ↓reduceIte, Nat.reduceLT, Nat.reduceEqDiff, Nat.reduceAdd, Nat.reduceLeDiff], by simp (disch := first | assumption | omega | (simp (disch := first | assumption | omega) only [sB, Nat.reduceAdd, Nat.reduceLT, Nat.reduceLeDiff, Nat.reduceEqDiff, Nat.reduceMul, ↓reduceIte]; done) | fail) only [sA, ↓reduceIte, Nat.reduceLT, Nat.reduceEqDiff, Nat.reduceAdd, Nat.reduceLeDiff]⟩
    simp (disch := first | assumption | omega | (simp (disch := first | assumption | omega) only [sB, Nat.reduceAdd, Nat.reduceLT, Nat.reduceLeDiff, Nat.reduceEqDiff, Nat.reduceMul, ↓reduceIte]; done) | fail) only [sA, ↓reduceIte, Nat.reduceLT, Nat.reduceEqDiff, Nat.reduceAdd, Nat.reduceLeDiff, F4]
    exact ⟨_, _, rfl⟩

/-- a limit that is handed in -/
theorem lim_arg {H : Type} (f : Nat) (x : DataW H) (h : Fit Go.Proofs.Try.prog f 45 x) : ∃ l : SLim, dVal Go.Proofs.Try.prog f 45 x = encM l := by
  obtain ⟨g, a, b, rfl, rfl, h1, h2, h4⟩ := struct2 Go.Proofs.Try.underlying45 h
  obtain ⟨l1, e1⟩ := lev_arg _ _ h1
  obtain ⟨l2, e2⟩ := lev_arg _ _ h2
  refine ⟨⟨l1, l2⟩, ?_⟩
  rw [h4]
  show D.agg (cells (dVal _ g 43 a) ++ cells (dVal _ g 43 b)) = _
  rw [e1, e2]
  rfl
set_option maxRecDepth 100000 in
theorem sl_lifted (os : Os) (started : os.Started) (H : Type) (enc : TypeId × Value → H) :
    ReturnsInHanded {} Go.Proofs.Try.checked os 6 .any (Rows.lsolveLeastSpec.pre6 enc Go.Proofs.Try.prog Go.Proofs.Try.f6 Rows.lsolveLeastRow.domain false) (Rows.lsolveLeastSpec.post enc Go.Proofs.Try.prog Go.Proofs.Try.f6 false true false false) := by
  refine law_lifted (C := Go.Proofs.Try.checked) (tb := 4) own started (by kernel_rfl) Go.Proofs.Try.func6
    (ChangeSpec.witness6 (enc := enc) (C := Go.Proofs.Try.checked) false ⟨#[], #[.int .i64 0, .slice none 0 0], []⟩ 8 (by kernel_rfl) (by kernel_rfl) (by kernel_rfl) (by kernel_rfl))
    mixed laidOut rowed_maps full_slices (by kernel_rfl) rfl (by kernel_rfl) rfl ?_ ?_
  · intro ds hl
    match ds, hl with
    | [_, _], _ => rfl
  · intro ds l hA
    have hA : ArgsAre Go.Proofs.Try.prog [3, 40] ds l := hA
    obtain ⟨x, y, f1, f2, rfl, h1, h2⟩ := args_two hA
    obtain ⟨k, e1, _⟩ := int_arg (k := .i64) (by kernel_rfl) h1
    obtain ⟨s, e2, _, _⟩ := slice_arg (k := 4) (enc := encM) (R := fun _ _ => True) Go.Proofs.Try.underlying40 (by kernel_rfl) h2 (fun g' y _ hy => by
      obtain ⟨l, e⟩ := lim_arg _ _ hy
      exact ⟨l, e, trivial⟩)
    rw [e1, e2]
    exact sl_run k s

theorem LsolveLeast_holds : Rows.LsolveLeastSaid :=
  OpenClaim.holds_of_wide 6 Go.Proofs.Try.f6 rfl rfl rfl rfl rfl rfl rfl ⟨rfl, rfl, rfl, rfl, rfl⟩ rfl rfl rfl rfl rfl (by kernel_rfl) Go.Proofs.Try.func6 (by kernel_rfl)
    (of_decide_eq_true (by kernel_rfl)) (by unfold Func.isWrapper; first | (rw [if_pos (by decide +kernel)]; kernel_rfl) | (rw [if_neg (by decide +kernel)]; exact ⟨rfl, rfl⟩))
    (fun os started H enc _ => sl_lifted os started H enc)
end Go.Proofs.Ytjagmfgjlfkmgaa
