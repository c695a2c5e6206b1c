/- Merged: LC LD LE. -/
import Derived.Test.YtjagmfgjlfkmgaaLB

/- Going over what a level is at least: a loop over a function. No condition. -/
set_option linter.unusedSimpArgs false
set_option linter.unusedVariables false
namespace Go.Proofs.Ytjagmfgjlfkmgaa
open Go

section
variable {F : Nat → DFn}
/-- one round of a loop over a function -/
theorem round_run {r k n : Nat} {env : Tr} {p : Po} {a b : DCode} {h h1 h2 : Hps} {d : D} {e1 e2 : Tr} {n1 n2 : Nat} {x : Ex} (hr : getO h r = .loop k env [p] a b .none)
    (ha : LX F a (putT p d env) n (delO h r) = .ok .normal e1 n1 h1) (hb : LX F b e1 n1 h1 = .ok x e2 n2 h2) : callX F (LX F) n h (.yld r) [d] = endRound r k env [p] a b n2 h2 x := by
  show round (LX F) r n h [d] (getO h r) = _
  rw [hr]
  show begRound (LX F) r k n h env [p] a b (.ok .normal (putT p d env) 0 []) = _
  show midRound (LX F) r k env [p] a b (LX F a (putT p d env) n (delO h r)) = _
  rw [ha]
  show lastRound r k env [p] a b (LX F b e1 n1 h1) = _
  rw [hb]; rfl
def jmp : Ex → Jp
  | .normal => .none
  | .exit i => .exit i
  | .ret => .ret
theorem end_round {r k n : Nat} {env : Tr} {ps : List Po} {a b : DCode} {h : Hps} (x : Ex) : endRound r k env ps a b n h x = .ok (.bool (match x with | .normal => true | _ => false)) n ((r, .loop k env ps a b (jmp x)) :: h) := by cases x <;> rfl
theorem lowO_loop {m k : Nat} {env : Tr} {ps : List Po} {a b : DCode} {j : Jp} (hm : k ≤ m) : lowO m (.loop k env ps a b j) := by
  show Nat.blt m k = false
  rw [blt_iff, decide_eq_false (by omega)]
/-- a loop's object laid to a heap -/
theorem Hp.loop {n : Nat} {B h : Hps} {m k : Nat} {env : Tr} {ps : List Po} {a b : DCode} {j : Jp} (H : Hp (n + 1) B m h) (hk : k ≤ n) : Hp (n + 1) ((n, .loop k env ps a b j) :: B) m ((n, .loop k env ps a b j) :: h) := by
  have hle := H.le
  refine ⟨H.le, fun q hq => good_cons.2 ⟨by omega, lowO_loop (by omega), H.good q hq⟩, ?_, ?_⟩
  · rw [drop_old (by omega), H.drop]
  · rw [leak_old (by omega), H.leak, Bool.or_false]
    exact lowO_loop (by omega)
theorem drop_del {n0 r : Nat} {h : Hps} : dropFrom n0 (delO h r) = delO (dropFrom n0 h) r := by
  induction h with
  | nil => rfl
  | cons p t ih =>
    obtain ⟨q, o⟩ := p
    by_cases e : q = r
    · subst e
      rw [delO_hd]
      by_cases hq : q < n0
      · rw [drop_old hq, delO_hd, ih]
      · rw [drop_new (by omega), ih]
    · rw [delO_tl e]
      by_cases hq : q < n0
      · rw [drop_old hq, drop_old hq, delO_tl e, ih]
      · rw [drop_new (by omega), drop_new (by omega), ih]
theorem leak_del {n0 r : Nat} {h : Hps} (hl : leak n0 h = false) : leak n0 (delO h r) = false := by
  induction h with
  | nil => rfl
  | cons p t ih =>
    obtain ⟨q, o⟩ := p
    by_cases hq : q < n0
    · rw [leak_old hq, Bool.or_eq_false_iff] at hl
      by_cases e : q = r
      · subst e; rw [delO_hd]; exact ih hl.2
      · rw [delO_tl e, leak_old hq, hl.1, ih hl.2]; rfl
    · rw [leak_new (by omega)] at hl
      by_cases e : q = r
      · subst e; rw [delO_hd]; exact ih hl
      · rw [delO_tl e, leak_new (by omega)]; exact ih hl
theorem Hp.unloop {n : Nat} {B h : Hps} {m : Nat} {o : Ob} (H : Hp (n + 1) ((n, o) :: B) m h) (hB : GoodAt n B) : Hp (n + 1) B m (delO h n) :=
  ⟨H.le, fun k hk => good_del (H.good k hk), by rw [drop_del, H.drop, delO_hd, delO_out (fun p hp => by have := (hB p hp).1; omega)], leak_del H.leak⟩
end

/-- what a level is at least -/
def items (N : Int) (v : List LV) : List LV := (-1, N) :: v
theorem items_len (N : Int) (v : List LV) : (items N v).length = v.length + 1 := rfl

section
variable {n : Nat} {B0 : Hps} {env : Tr} {p : Po} {a b : DCode} {N : Int} {v : Sl LV}
/-- a round that keeps going, or that ends the loop by a jump -/
def Rnd (n : Nat) (env : Tr) (p : Po) (a b : DCode) (I : Nat → Hps → Prop) (J : Ex → Hps → Prop) (i : Nat) (d : D) : Prop :=
  ∀ B m h, I i B → (∀ k, n ≤ k → GoodAt k B) → Hp (n + 1) B m h → ∃ e1 n1 h1 x e2 n2 h2 B', LX (cF Go.Proofs.Try.prog) a (putT p d env) m h = .ok .normal e1 n1 h1 ∧ LX (cF Go.Proofs.Try.prog) b e1 n1 h1 = .ok x e2 n2 h2 ∧ (∀ k, n ≤ k → GoodAt k B') ∧ Hp (n + 1) B' n2 h2 ∧ m ≤ n2 ∧ ((x = .normal ∧ I (i + 1) B') ∨ (x ≠ .normal ∧ J x B'))
theorem rnd_intro {a b : DCode} {E : Tr} {m : Nat} {h : Hps} {e1 : Tr} {n1 : Nat} {h1 : Hps} {P : Ex → Tr → Nat → Hps → Hps → Prop} (h0 : LX (cF Go.Proofs.Try.prog) a E m h = .ok .normal e1 n1 h1) (h2 : ∃ x e2 n2 h2 B', LX (cF Go.Proofs.Try.prog) b e1 n1 h1 = .ok x e2 n2 h2 ∧ P x e2 n2 h2 B') :
    ∃ e1 n1 h1 x e2 n2 h2 B', LX (cF Go.Proofs.Try.prog) a E m h = .ok .normal e1 n1 h1 ∧ LX (cF Go.Proofs.Try.prog) b e1 n1 h1 = .ok x e2 n2 h2 ∧ P x e2 n2 h2 B' := by
  obtain ⟨x, e2, n2, h2, B', q1, q2⟩ := h2
  exact ⟨e1, n1, h1, x, e2, n2, h2, B', h0, q1, q2⟩
theorem rnd_call {I : Nat → Hps → Prop} {J : Ex → Hps → Prop} {i : Nat} {d : D} (R : Rnd n env p a b I J i d) {B : Hps} {m : Nat} {h : Hps} (hI : I i B) (hB : ∀ k, n ≤ k → GoodAt k B) (H : Hp (n + 1) ((n, .loop n env [p] a b .none) :: B) m h) :
    ∃ t m' h' B' j, callX (cF Go.Proofs.Try.prog) (LX (cF Go.Proofs.Try.prog)) m h (.yld n) [d] = .ok (.bool t) m' h' ∧ m ≤ m' ∧ (∀ k, n ≤ k → GoodAt k B') ∧ Hp (n + 1) ((n, .loop n env [p] a b j) :: B') m' h' ∧ ((t = true ∧ j = .none ∧ I (i + 1) B') ∨ (t = false ∧ ∃ x, x ≠ .normal ∧ j = jmp x ∧ J x B')) := by
  obtain ⟨e1, n1, h1, x, e2, n2, h2, B', r1, r2, r3, r4, r5, r6⟩ := R B m (delO h n) hI hB (H.unloop (hB n (Nat.le_refl _)))
  have hget : getO h n = .loop n env [p] a b .none := by rw [H.get (by omega), getO_hd]
  refine ⟨_, n2, _, B', jmp x, (round_run hget r1 r2).trans (end_round x), r5, r3, r4.loop (Nat.le_refl _), ?_⟩
  rcases r6 with ⟨rfl, r6⟩ | ⟨hx, r6⟩
  · exact .inl ⟨rfl, rfl, r6⟩
  · refine .inr ⟨?_, x, hx, rfl, r6⟩
    cases x with
    | normal => exact absurd rfl hx
    | _ => rfl

theorem least_run {I : Nat → Hps → Prop} {J : Ex → Hps → Prop} (hs : v.el.length < 1000000000000) (hI : I 0 B0) (hB : ∀ k, n ≤ k → GoodAt k B0)
    (R : ∀ i (hi : i < (items N v.el).length), Rnd n env p a b I J i (.agg [.int .i64 ((items N v.el)[i]).1, .int .i64 ((items N v.el)[i]).2])) :
    ∃ B' j, callFn (LX (cF Go.Proofs.Try.prog)) (n + 1) ((n, .loop n env [p] a b .none) :: B0) [.yld n, .ip (D.agg [.int .i64 (N), slD 2 encV (v)]) 0] (cF Go.Proofs.Try.prog 82) = .ok (.tup []) (n + 1) ((n, .loop n env [p] a b j) :: B') ∧ (∀ k, n ≤ k → GoodAt k B') ∧
      ((j = .none ∧ I (items N v.el).length B') ∨ ∃ x, x ≠ .normal ∧ j = jmp x ∧ J x B') := by
  have H0 : Hp (n + 1) ((n, .loop n env [p] a b .none) :: B0) (n + 1) ((n, .loop n env [p] a b .none) :: B0) := (Hp.start (good_of hB (by omega))).loop (Nat.le_refl _)
  have fin : ∀ {B' j m h}, Hp (n + 1) ((n, .loop n env [p] a b j) :: B') m h → finishD (n + 1) m h (.tup []) = .ok (.tup []) (n + 1) ((n, .loop n env [p] a b j) :: B') := fun H => finish_flat (d := .tup []) rfl H
  rw [f82_eq]; unfold c82; rw [callFn_eq (by rfl)]
  obtain ⟨t, m', h', B', j, q1, q2, q3, q4, q5⟩ := rnd_call (R 0 (by rw [items_len]; omega)) hI hB (H0.mono (show n + 1 ≤ n + 6 by omega))
  replace q1 : callX (cF Go.Proofs.Try.prog) (LX (cF Go.Proofs.Try.prog)) (n + 6) ((n, .loop n env [p] a b .none) :: B0) (.yld n) [.agg [.int .i64 (-1), .int .i64 N]] = .ok (.bool t) m' h' := q1
  rcases q5 with ⟨rfl, rfl, q5⟩ | ⟨rfl, x, x1, rfl, x2⟩
  · simp (disch := first | assumption | omega | (simp (disch := first | assumption | omega) only [sB, Nat.reduceAdd, Nat.reduceLT, Nat.reduceLeDiff, Nat.reduceEqDiff, Nat.reduceMul, ↓reduceIte]; done) | fail) only [sA, ↓reduceIte, Nat.reduceLT, Nat.reduceEqDiff, Nat.reduceAdd, Nat.reduceLeDiff, q1]
    generalize hr : LX (cF Go.Proofs.Try.prog) (.loop l82_0) _ _ _ = r
    obtain ⟨x, e2, n2, h2, rfl, hx, B2, j2, H2, hB2, q⟩ := loop_up hr v.el.length
      (fun i e n' h' => ∃ B', Hp (n + 1) ((n, .loop n env [p] a b .none) :: B') n' h' ∧ (∀ k, n ≤ k → GoodAt k B') ∧ I (i + 1) B' ∧ get (po 0) e = .yld n ∧ get (po 12) e = slD 2 encV v ∧ get (po 13) e = .int .i64 (v.el.length : Nat) ∧ get (po 14) e = .int .i64 (i : Nat))
      (fun x e n' h' => (x = .exit 0 ∨ x = .ret) ∧ ∃ B' j, Hp (n + 1) ((n, .loop n env [p] a b j) :: B') n' h' ∧ (∀ k, n ≤ k → GoodAt k B') ∧ ((j = .none ∧ I (v.el.length + 1) B') ∨ ∃ x, x ≠ .normal ∧ j = jmp x ∧ J x B'))
      (by
        rintro e n' h' ⟨B', H, hB', hI', g0, g12, g13, g14⟩
        unfold l82_0
        simp (disch := first | assumption | omega | (simp (disch := first | assumption | omega) only [sB, Nat.reduceAdd, Nat.reduceLT, Nat.reduceLeDiff, Nat.reduceEqDiff, Nat.reduceMul, ↓reduceIte]; done) | fail) only [sA, ↓reduceIte, Nat.reduceLT, Nat.reduceEqDiff, Nat.reduceAdd, Nat.reduceLeDiff, g12, g13, g14]
        exact ⟨_, _, _, _, rfl, by simp, .inl rfl, B', .none, H.mono (by omega), hB', .inl ⟨rfl, hI'⟩⟩)
      (by
        rintro i e n' h' hi ⟨B', H, hB', hI', g0, g12, g13, g14⟩
        have hle := H.le
        have H1 : Hp (n + 1) ((n, .loop n env [p] a b .none) :: B') (n' + 8) ((n' + 3, .row 2 [encV v.el[i]]) :: h') := (H.box (r := n' + 3) (m := n' + 4) (by omega) (by omega) rfl).mono (by omega)
        obtain ⟨t, m', h'', B'', j, q1, q2, q3, q4, q5⟩ := rnd_call (R (i + 1) (by rw [items_len]; omega)) hI' hB' H1
        replace q1 : callX (cF Go.Proofs.Try.prog) (LX (cF Go.Proofs.Try.prog)) (n' + 8) ((n' + 3, .row 2 [.agg [.int .i64 v.el[i].1, .int .i64 v.el[i].2]]) :: h') (.yld n) [.agg [.int .i64 v.el[i].1, .int .i64 v.el[i].2]] = .ok (.bool t) m' h'' := q1
        unfold l82_0
        rcases q5 with ⟨rfl, rfl, q5⟩ | ⟨rfl, x, x1, rfl, x2⟩
        · simp (disch := first | assumption | omega | (simp (disch := first | assumption | omega) only [sB, Nat.reduceAdd, Nat.reduceLT, Nat.reduceLeDiff, Nat.reduceEqDiff, Nat.reduceMul, ↓reduceIte]; done) | fail) only [sA, ↓reduceIte, Nat.reduceLT, Nat.reduceEqDiff, Nat.reduceAdd, Nat.reduceLeDiff, g0, g12, g13, g14, encV, q1]
          exact ⟨_, _, _, _, rfl, .inl ⟨rfl, B'', q4.mono (by omega), q3, q5, by simp (disch := first | assumption | omega | (simp (disch := first | assumption | omega) only [sB, Nat.reduceAdd, Nat.reduceLT, Nat.reduceLeDiff, Nat.reduceEqDiff, Nat.reduceMul, ↓reduceIte]; done) | fail) only [sA, ↓reduceIte, Nat.reduceLT, Nat.reduceEqDiff, Nat.reduceAdd, Nat.reduceLeDiff, g0], by simp (disch := first | assumption | omega | (simp (disch := first | assumption | omega) only [sB, Nat.reduceAdd, Nat.reduceLT, Nat.reduceLeDiff, Nat.reduceEqDiff, Nat.reduceMul, ↓reduceIte]; done) | fail) only [sA, ↓reduceIte, Nat.reduceLT, Nat.reduceEqDiff, Nat.reduceAdd, Nat.reduceLeDiff, g12], by simp (disch := first | assumption | omega | (simp (disch := first | assumption | omega) only [sB, Nat.reduceAdd, Nat.reduceLT, Nat.reduceLeDiff, Nat.reduceEqDiff, Nat.reduceMul, ↓reduceIte]; done) | fail) only [sA, ↓reduceIte, Nat.reduceLT, Nat.reduceEqDiff, Nat.reduceAdd, Nat.reduceLeDiff, g13], by simp (disch := first | assumption | omega | (simp (disch := first | assumption | omega) only [sB, Nat.reduceAdd, Nat.reduceLT, Nat.reduceLeDiff, Nat.reduceEqDiff, Nat.reduceMul, ↓reduceIte]; done) | fail) only [sA, ↓reduceIte, Nat.reduceLT, Nat.reduceEqDiff, Nat.reduceAdd, Nat.reduceLeDiff]⟩⟩
        · simp (disch := first | assumption | omega | (simp (disch := first | assumption | omega) only [sB, Nat.reduceAdd, Nat.reduceLT, Nat.reduceLeDiff, Nat.reduceEqDiff, Nat.reduceMul, ↓reduceIte]; done) | fail) only [sA, ↓reduceIte, Nat.reduceLT, Nat.reduceEqDiff, Nat.reduceAdd, Nat.reduceLeDiff, g0, g12, g13, g14, encV, q1]
          exact ⟨_, _, _, _, rfl, .inr ⟨by simp, .inr rfl, B'', _, q4.mono (by omega), q3, .inr ⟨x, x1, rfl, x2⟩⟩⟩)
      ⟨B', q4.mono (by omega), q3, q5, by simp (disch := first | assumption | omega | (simp (disch := first | assumption | omega) only [sB, Nat.reduceAdd, Nat.reduceLT, Nat.reduceLeDiff, Nat.reduceEqDiff, Nat.reduceMul, ↓reduceIte]; done) | fail) only [sA, ↓reduceIte, Nat.reduceLT, Nat.reduceEqDiff, Nat.reduceAdd, Nat.reduceLeDiff], by simp (disch := first | assumption | omega | (simp (disch := first | assumption | omega) only [sB, Nat.reduceAdd, Nat.reduceLT, Nat.reduceLeDiff, Nat.reduceEqDiff, Nat.reduceMul, ↓reduceIte]; done) | fail) only [sA, ↓reduceIte, Nat.reduceLT, Nat.reduceEqDiff, Nat.reduceAdd, Nat.reduceLeDiff], by simp (disch := first | assumption | omega | (simp (disch := first | assumption | omega) only [sB, Nat.reduceAdd, Nat.reduceLT, Nat.reduceLeDiff, Nat.reduceEqDiff, Nat.reduceMul, ↓reduceIte]; done) | fail) only [sA, ↓reduceIte, Nat.reduceLT, Nat.reduceEqDiff, Nat.reduceAdd, Nat.reduceLeDiff], by simp (disch := first | assumption | omega | (simp (disch := first | assumption | omega) only [sB, Nat.reduceAdd, Nat.reduceLT, Nat.reduceLeDiff, Nat.reduceEqDiff, Nat.reduceMul, ↓reduceIte]; done) | fail) only [sA, ↓reduceIte, Nat.reduceLT, Nat.reduceEqDiff, Nat.reduceAdd, Nat.reduceLeDiff]⟩
    rcases hx with rfl | rfl
    · simp (disch := first | assumption | omega | (simp (disch := first | assumption | omega) only [sB, Nat.reduceAdd, Nat.reduceLT, Nat.reduceLeDiff, Nat.reduceEqDiff, Nat.reduceMul, ↓reduceIte]; done) | fail) only [sA, ↓reduceIte, Nat.reduceLT, Nat.reduceEqDiff, Nat.reduceAdd, Nat.reduceLeDiff, fin H2]
      exact ⟨_, _, rfl, hB2, q⟩
    · simp (disch := first | assumption | omega | (simp (disch := first | assumption | omega) only [sB, Nat.reduceAdd, Nat.reduceLT, Nat.reduceLeDiff, Nat.reduceEqDiff, Nat.reduceMul, ↓reduceIte]; done) | fail) only [sA, ↓reduceIte, Nat.reduceLT, Nat.reduceEqDiff, Nat.reduceAdd, Nat.reduceLeDiff, fin H2]
      exact ⟨_, _, rfl, hB2, q⟩
  · have F4 := fun m hm => fin (q4.mono (m := m) hm)
    simp (disch := first | assumption | omega | (simp (disch := first | assumption | omega) only [sB, Nat.reduceAdd, Nat.reduceLT, Nat.reduceLeDiff, Nat.reduceEqDiff, Nat.reduceMul, ↓reduceIte]; done) | fail) only [sA, ↓reduceIte, Nat.reduceLT, Nat.reduceEqDiff, Nat.reduceAdd, Nat.reduceLeDiff, q1, F4]
    exact ⟨_, _, rfl, q3, .inr ⟨x, x1, rfl, x2⟩⟩
end
end Go.Proofs.Ytjagmfgjlfkmgaa

/- Whether a level is at most another one, as the program tells it. No condition. -/
namespace Go.Proofs.Ytjagmfgjlfkmgaa
open Go

theorem rng_at {n : Nat} {B0 : Hps} {e : Tr} {f : Opd} {p : Po} {a b : DCode} {N : Int} {v : Sl LV} {r : Re} (hr : LX (cF Go.Proofs.Try.prog) (.rng f [p] a b) e n B0 = r) (hf : ev e f = .fn 82 [] [.ip (D.agg [.int .i64 (N), slD 2 encV (v)]) 0]) (hs : v.el.length < 1000000000000) {w : List LV} (hw : v.el = w)
    (I : Nat → Hps → Prop) (J : Ex → Hps → Prop) (hI : I 0 B0) (hB : ∀ k, n ≤ k → GoodAt k B0)
    (R : ∀ i (hi : i < (items N w).length), Rnd n e p a b I J i (.agg [.int .i64 ((items N w)[i]).1, .int .i64 ((items N w)[i]).2])) :
    ∃ x B', r = .ok x e (n + 1) B' ∧ (∀ k, n ≤ k → GoodAt k B') ∧ ((x = .normal ∧ I (items N w).length B') ∨ (x ≠ .normal ∧ J x B')) := by
  subst hw
  obtain ⟨B', j, q1, q2, q3⟩ := least_run (N := N) (v := v) hs hI hB R
  have hout : delO B' n = B' := delO_out (fun p hp => by have := (q2 n (Nat.le_refl _) p hp).1; omega)
  have key : r = afterJp e (n + 1) B' j := by
    rw [← hr, LX_rng, hf]
    show rngK e n (callFn (LX (cF Go.Proofs.Try.prog)) (n + 1) ((n, .loop n e [p] a b .none) :: B0) [.yld n, .ip (D.agg [.int .i64 (N), slD 2 encV (v)]) 0] ((cF Go.Proofs.Try.prog) 82)) = _
    rw [q1]
    show afterRng e n (n + 1) ((n, .loop n e [p] a b j) :: B') (getO ((n, .loop n e [p] a b j) :: B') n) = _
    rw [getO_hd]
    show afterJp e (n + 1) (delO ((n, .loop n e [p] a b j) :: B') n) j = _
    rw [delO_hd, hout]
  rcases q3 with ⟨rfl, q3⟩ | ⟨x, x1, rfl, x2⟩
  · exact ⟨.normal, B', key, q2, .inl ⟨rfl, q3⟩⟩
  · refine ⟨x, B', ?_, q2, .inr ⟨x1, x2⟩⟩
    rw [key]
    cases x with
    | normal => exact absurd rfl x1
    | _ => rfl

theorem lvLeast (n : Nat) (h : Hps) (hg : ∀ k, n ≤ k → GoodAt k h) (N : Int) (v : Sl LV) : callFn (LX (cF Go.Proofs.Try.prog)) n h [(D.agg [.int .i64 (N), slD 2 encV (v)])] (cF Go.Proofs.Try.prog 78) = .ok (.fn 82 [] [.ip (D.agg [.int .i64 (N), slD 2 encV (v)]) 0]) n h := by
  have hgn := hg n (Nat.le_refl _)
  have H0 : Hp n h (n + 1) ((n, (Ob.row 2 [.agg [.int .i64 (N), slD 2 encV (v)]])) :: h) := (Hp.start hg).box (Nat.le_refl _) (by omega) (flatL ⟨N, v⟩)
  have hok : okE 2 (D.agg [.int .i64 (N), slD 2 encV (v)]) = true := by
    show Bool.and (okF 2 (D.agg [.int .i64 (N), slD 2 encV (v)])) (clo 20 (D.agg [.int .i64 (N), slD 2 encV (v)])) = true
    show Bool.and true (allL (clo 19) [.int .i64 N, slD 2 encV v]) = true
    rw [allL_eq]; simp [clo_slD, clo_int]
  have fin : ∀ m, n + 1 ≤ m → finishD n m ((n, (Ob.row 2 [.agg [.int .i64 (N), slD 2 encV (v)]])) :: h) (.fn 82 [] [.ptr n 0 0]) = .ok (.fn 82 [] [.ip (D.agg [.int .i64 (N), slD 2 encV (v)]) 0]) n h := by
    intro m hm
    have hA : frz ((n, (Ob.row 2 [.agg [.int .i64 (N), slD 2 encV (v)]])) :: h) n 58 (D.agg [.int .i64 (N), slD 2 encV (v)]) = (D.agg [.int .i64 (N), slD 2 encV (v)]) := (plain2 56 (show flat2 (D.agg [.int .i64 (N), slD 2 encV (v)]) = true by rw [flat2_agg]; simp [flat1_slD, flat1_int])).frz _ _
    have hfr : frz ((n, (Ob.row 2 [.agg [.int .i64 (N), slD 2 encV (v)]])) :: h) n 60 (.fn 82 [] [.ptr n 0 0]) = .fn 82 [] [.ip (D.agg [.int .i64 (N), slD 2 encV (v)]) 0] := by
      show D.fn 82 [] [Bool.rec (motive := fun _ => D) (frzP (frz ((n, (Ob.row 2 [.agg [.int .i64 (N), slD 2 encV (v)]])) :: h) n 58) 0 0 (getO ((n, (Ob.row 2 [.agg [.int .i64 (N), slD 2 encV (v)]])) :: h) n)) (.ptr n 0 0) (Nat.blt n n)] = _
      rw [blt_iff, decide_eq_false (Nat.lt_irrefl _), getO_hd]
      show D.fn 82 [] [Bool.rec (motive := fun _ => D) .junk (.ip (frz ((n, (Ob.row 2 [.agg [.int .i64 (N), slD 2 encV (v)]])) :: h) n 58 (D.agg [.int .i64 (N), slD 2 encV (v)])) 0) (okE 2 (frz ((n, (Ob.row 2 [.agg [.int .i64 (N), slD 2 encV (v)]])) :: h) n 58 (D.agg [.int .i64 (N), slD 2 encV (v)])))] = _
      rw [hA, hok]
    show Bool.rec (motive := fun _ => Rd) (finishF n m ((n, (Ob.row 2 [.agg [.int .i64 (N), slD 2 encV (v)]])) :: h) _ (frz ((n, (Ob.row 2 [.agg [.int .i64 (N), slD 2 encV (v)]])) :: h) n 60 (.fn 82 [] [.ptr n 0 0]))) (.ok _ m ((n, (Ob.row 2 [.agg [.int .i64 (N), slD 2 encV (v)]])) :: h)) (leak n ((n, (Ob.row 2 [.agg [.int .i64 (N), slD 2 encV (v)]])) :: h)) = _
    rw [H0.leak, hfr]
    show Rd.ok (.fn 82 [] [.ip (D.agg [.int .i64 (N), slD 2 encV (v)]) 0]) n (dropFrom n ((n, (Ob.row 2 [.agg [.int .i64 (N), slD 2 encV (v)]])) :: h)) = _
    rw [H0.drop]
  rw [f78_eq]; unfold c78; rw [callFn_eq (by rfl)]
  simp (disch := first | assumption | omega | (simp (disch := first | assumption | omega) only [sB, Nat.reduceAdd, Nat.reduceLT, Nat.reduceLeDiff, Nat.reduceEqDiff, Nat.reduceMul, ↓reduceIte]; done) | fail) only [sA, ↓reduceIte, Nat.reduceLT, Nat.reduceEqDiff, Nat.reduceAdd, Nat.reduceLeDiff, fin]

/-- is this, of what is looked for, met by those of the other level? -/
def met (x : LV) (l : List LV) : Bool := l.any fun y => decide (x.2 ≤ y.2) && (decide (x.1 < 0) || decide (x.1 = y.1))
theorem met_snoc (x : LV) (l : List LV) (y : LV) : met x (l ++ [y]) = (met x l || (decide (x.2 ≤ y.2) && (decide (x.1 < 0) || decide (x.1 = y.1)))) := by unfold met; rw [List.any_append]; simp
theorem leqN_items {a b : Lev} (ha : ∀ p, p ∈ a.v → 0 ≤ p.1) (hb : ∀ p, p ∈ b.v → 0 ≤ p.1) : leqN a b = (items a.n a.v).all fun x => met x (items b.n b.v) := by
  unfold leqN items
  rw [List.all_cons]
  congr 1
  · unfold met
    rw [List.any_cons]
    simp
  · rw [Bool.eq_iff_iff, List.all_eq_true, List.all_eq_true]
    have key : ∀ p, p ∈ a.v → (b.v.any (fun q => decide (p.1 = q.1) && decide (p.2 ≤ q.2)) = met p ((-1, b.n) :: b.v)) := by
      intro p hp
      have h0 := ha p hp
      unfold met
      rw [List.any_cons]
      have e1 : decide (p.1 < 0) = false := decide_eq_false (by omega)
      have e2 : decide (p.1 = -1) = false := decide_eq_false (by omega)
      simp only [e1, e2, Bool.or_self, Bool.and_false, Bool.false_or]
      congr 1
      funext q
      rw [Bool.and_comm]
    exact ⟨fun h p hp => by rw [← key p hp]; exact h p hp, fun h p hp => by rw [key p hp]; exact h p hp⟩

set_option maxHeartbeats 4000000 in
theorem lvLeq (n : Nat) (h : Hps) (hg : ∀ k, n ≤ k → GoodAt k h) (N N' : Int) (d d' : D) (l l' : List LV) (ad ad' : Nat → D) (S : Sv 2 encV n h d l ad) (S' : Sv 2 encV n h d' l' ad') (hs : l.length < 1000000000000) (hs' : l'.length < 1000000000000) :
    callFn (LX (cF Go.Proofs.Try.prog)) n h [(D.agg [.int .i64 (N), d]), (D.agg [.int .i64 (N'), d'])] (cF Go.Proofs.Try.prog 45) = .ok (.bool (Lev.leq ⟨N, l⟩ ⟨N', l'⟩)) n h := by
  have hgn := hg n (Nat.le_refl _)
  have s3 := S.okD
  have s3' := S'.okD
  have H0 : Hp n h (n + 3) ((n + 2, .row 1 [.bool false]) :: (n + 1, (Ob.row 2 [.agg [.int .i64 (N'), d']])) :: (n, (Ob.row 2 [.agg [.int .i64 (N), d]])) :: h) := (((Hp.start hg).cons (r := n) (m := n + 1) (Nat.le_refl _) (by omega) (fun k hk => S.box2 (by omega))).cons (m := n + 2) (r := n + 1) (by omega) (by omega) (fun k hk => S'.box2 (by omega))).box (m := n + 3) (r := n + 2) (by omega) (by omega) rfl
  have c0 : ∀ m, n + 3 ≤ m → callFn (LX (cF Go.Proofs.Try.prog)) m ((n + 2, .row 1 [.bool false]) :: (n + 1, (Ob.row 2 [.agg [.int .i64 (N'), d']])) :: (n, (Ob.row 2 [.agg [.int .i64 (N), d]])) :: h) [(D.agg [.int .i64 (N), d])] (cF Go.Proofs.Try.prog 36) = .ok (D.tup [.agg [.int .i64 (Lev.nrm ⟨N, l⟩).1.n, slD 2 encV (Sl.app (Lev.nrm ⟨N, l⟩).1.v)], .int .i64 (Lev.nrm ⟨N, l⟩).2]) m ((n + 2, .row 1 [.bool false]) :: (n + 1, (Ob.row 2 [.agg [.int .i64 (N'), d']])) :: (n, (Ob.row 2 [.agg [.int .i64 (N), d]])) :: h) := fun m hm => lvNorm m _ (H0.good' hm) N d l ad (S.mono H0 hm) hs
  unfold Lev.leq
  by_cases hb : Lev.right ⟨N, l⟩ = true
  · rw [hb, Bool.true_and]
    rw [nrm_right hb] at c0
    have hr := right_iff.1 (right_norm hb)
    generalize hM : Lev.norm ⟨N, l⟩ = M at c0 hr ⊢
    obtain ⟨Mn, Mv⟩ := M
    obtain ⟨hMn, hlen, hMv⟩ := hr
    replace hlen : Mv.length ≤ 64 := hlen
    replace hMn : 0 ≤ Mn ∧ Mn ≤ 1000 := hMn
    have H1 : Hp n h (n + 3) ((n + 2, .row 1 [.bool false]) :: (n + 1, (Ob.row 2 [.agg [.int .i64 (N'), d']])) :: (n, (Ob.row 2 [.agg [.int .i64 (Mn), slD 2 encV (Sl.app Mv)]])) :: h) := (((Hp.start hg).box (r := n) (m := n + 1) (Nat.le_refl _) (by omega) (flatL ⟨Mn, Sl.app Mv⟩)).cons (m := n + 2) (r := n + 1) (by omega) (by omega) (fun k hk => S'.box2 (by omega))).box (m := n + 3) (r := n + 2) (by omega) (by omega) rfl
    have c1 : ∀ m, n + 3 ≤ m → callFn (LX (cF Go.Proofs.Try.prog)) m ((n + 2, .row 1 [.bool false]) :: (n + 1, (Ob.row 2 [.agg [.int .i64 (N'), d']])) :: (n, (Ob.row 2 [.agg [.int .i64 (Mn), slD 2 encV (Sl.app Mv)]])) :: h) [(D.agg [.int .i64 (N'), d'])] (cF Go.Proofs.Try.prog 36) = .ok (D.tup [.agg [.int .i64 (Lev.nrm ⟨N', l'⟩).1.n, slD 2 encV (Sl.app (Lev.nrm ⟨N', l'⟩).1.v)], .int .i64 (Lev.nrm ⟨N', l'⟩).2]) m ((n + 2, .row 1 [.bool false]) :: (n + 1, (Ob.row 2 [.agg [.int .i64 (N'), d']])) :: (n, (Ob.row 2 [.agg [.int .i64 (Mn), slD 2 encV (Sl.app Mv)]])) :: h) := fun m hm => lvNorm m _ (H1.good' hm) N' d' l' ad' (S'.mono H1 hm) hs'
    by_cases hb' : Lev.right ⟨N', l'⟩ = true
    · rw [hb', Bool.true_and]
      rw [nrm_right hb'] at c1
      have hr' := right_iff.1 (right_norm hb')
      generalize hM' : Lev.norm ⟨N', l'⟩ = M' at c1 hr' ⊢
      obtain ⟨Mn', Mv'⟩ := M'
      obtain ⟨hMn', hlen', hMv'⟩ := hr'
      replace hlen' : Mv'.length ≤ 64 := hlen'
      replace hMn' : 0 ≤ Mn' ∧ Mn' ≤ 1000 := hMn'
      have H2 : Hp n h (n + 3) ((n + 2, .row 1 [.bool false]) :: (n + 1, (Ob.row 2 [.agg [.int .i64 (Mn'), slD 2 encV (Sl.app Mv')]])) :: (n, (Ob.row 2 [.agg [.int .i64 (Mn), slD 2 encV (Sl.app Mv)]])) :: h) := (((Hp.start hg).box (r := n) (m := n + 1) (Nat.le_refl _) (by omega) (flatL ⟨Mn, Sl.app Mv⟩)).box (m := n + 2) (r := n + 1) (by omega) (by omega) (flatL ⟨Mn', Sl.app Mv'⟩)).box (m := n + 3) (r := n + 2) (by omega) (by omega) rfl
      have c2 : ∀ m, n + 3 ≤ m → callFn (LX (cF Go.Proofs.Try.prog)) m ((n + 2, .row 1 [.bool false]) :: (n + 1, (Ob.row 2 [.agg [.int .i64 (Mn'), slD 2 encV (Sl.app Mv')]])) :: (n, (Ob.row 2 [.agg [.int .i64 (Mn), slD 2 encV (Sl.app Mv)]])) :: h) [(D.agg [.int .i64 (Mn), slD 2 encV (Sl.app Mv)])] (cF Go.Proofs.Try.prog 78) = .ok (.fn 82 [] [.ip (D.agg [.int .i64 (Mn), slD 2 encV (Sl.app Mv)]) 0]) m ((n + 2, .row 1 [.bool false]) :: (n + 1, (Ob.row 2 [.agg [.int .i64 (Mn'), slD 2 encV (Sl.app Mv')]])) :: (n, (Ob.row 2 [.agg [.int .i64 (Mn), slD 2 encV (Sl.app Mv)]])) :: h) := fun m hm => lvLeast m _ (H2.good' hm) Mn (Sl.app Mv)
      rw [leqN_items (a := ⟨Mn, Mv⟩) (b := ⟨Mn', Mv'⟩) (fun p hp => (hMv p hp).1.1) (fun p hp => (hMv' p hp).1.1)]
      show _ = Rd.ok (.bool ((items Mn Mv).all fun x => met x (items Mn' Mv'))) n h
      rw [f45_eq]; unfold c45; rw [callFn_eq (by rfl)]
      simp (disch := first | assumption | omega | (simp (disch := first | assumption | omega) only [sB, Nat.reduceAdd, Nat.reduceLT, Nat.reduceLeDiff, Nat.reduceEqDiff, Nat.reduceMul, ↓reduceIte]; done) | fail) only [sA, ↓reduceIte, Nat.reduceLT, Nat.reduceEqDiff, Nat.reduceAdd, Nat.reduceLeDiff, c0, c1, c2, s3, s3']
      generalize hr : LX (cF Go.Proofs.Try.prog) (.rng _ _ _ _) _ _ _ = r
      generalize hE : putT (po 24) _ _ = E0 at hr
      have g2 : get (po 2) E0 = .ptr n 0 0 := by rw [← hE]; simp (disch := first | assumption | omega | (simp (disch := first | assumption | omega) only [sB, Nat.reduceAdd, Nat.reduceLT, Nat.reduceLeDiff, Nat.reduceEqDiff, Nat.reduceMul, ↓reduceIte]; done) | fail) only [sA, ↓reduceIte, Nat.reduceLT, Nat.reduceEqDiff, Nat.reduceAdd, Nat.reduceLeDiff]
      have g3 : get (po 3) E0 = .ptr (n + 1) 0 0 := by rw [← hE]; simp (disch := first | assumption | omega | (simp (disch := first | assumption | omega) only [sB, Nat.reduceAdd, Nat.reduceLT, Nat.reduceLeDiff, Nat.reduceEqDiff, Nat.reduceMul, ↓reduceIte]; done) | fail) only [sA, ↓reduceIte, Nat.reduceLT, Nat.reduceEqDiff, Nat.reduceAdd, Nat.reduceLeDiff]
      have g4 : get (po 4) E0 = .ptr (n + 2) 0 0 := by rw [← hE]; simp (disch := first | assumption | omega | (simp (disch := first | assumption | omega) only [sB, Nat.reduceAdd, Nat.reduceLT, Nat.reduceLeDiff, Nat.reduceEqDiff, Nat.reduceMul, ↓reduceIte]; done) | fail) only [sA, ↓reduceIte, Nat.reduceLT, Nat.reduceEqDiff, Nat.reduceAdd, Nat.reduceLeDiff]
      have hf : ev E0 (.s (po 24)) = .fn 82 [] [.ip (D.agg [.int .i64 (Mn), slD 2 encV (Sl.app Mv)]) 0] := by rw [← hE]; simp (disch := first | assumption | omega | (simp (disch := first | assumption | omega) only [sB, Nat.reduceAdd, Nat.reduceLT, Nat.reduceLeDiff, Nat.reduceEqDiff, Nat.reduceMul, ↓reduceIte]; done) | fail) only [sA, ↓reduceIte, Nat.reduceLT, Nat.reduceEqDiff, Nat.reduceAdd, Nat.reduceLeDiff]
      clear hE
      obtain ⟨x, B', rfl, hB', hq⟩ := rng_at hr hf (show Mv.length < _ by omega) (w := Mv) rfl
        (fun i B => Hp n h (n + 26) B ∧ getO B n = (Ob.row 2 [.agg [.int .i64 (Mn), slD 2 encV (Sl.app Mv)]]) ∧ getO B (n + 1) = (Ob.row 2 [.agg [.int .i64 (Mn'), slD 2 encV (Sl.app Mv')]]) ∧ getO B (n + 2) = .row 1 [.bool false] ∧ ((items Mn Mv).take i).all (fun x => met x (items Mn' Mv')) = true)
        (fun x B => x = .ret ∧ Hp n h (n + 26) B ∧ getO B (n + 2) = .row 1 [.bool false] ∧ (items Mn Mv).all (fun x => met x (items Mn' Mv')) = false)
        ⟨H2.mono (by omega), by simp (disch := first | assumption | omega | (simp (disch := first | assumption | omega) only [sB, Nat.reduceAdd, Nat.reduceLT, Nat.reduceLeDiff, Nat.reduceEqDiff, Nat.reduceMul, ↓reduceIte]; done) | fail) only [sA, ↓reduceIte, Nat.reduceLT, Nat.reduceEqDiff, Nat.reduceAdd, Nat.reduceLeDiff], by simp (disch := first | assumption | omega | (simp (disch := first | assumption | omega) only [sB, Nat.reduceAdd, Nat.reduceLT, Nat.reduceLeDiff, Nat.reduceEqDiff, Nat.reduceMul, ↓reduceIte]; done) | fail) only [sA, ↓reduceIte, Nat.reduceLT, Nat.reduceEqDiff, Nat.reduceAdd, Nat.reduceLeDiff], by simp (disch := first | assumption | omega | (simp (disch := first | assumption | omega) only [sB, Nat.reduceAdd, Nat.reduceLT, Nat.reduceLeDiff, Nat.reduceEqDiff, Nat.reduceMul, ↓reduceIte]; done) | fail) only [sA, ↓reduceIte, Nat.reduceLT, Nat.reduceEqDiff, Nat.reduceAdd, Nat.reduceLeDiff], rfl⟩ ((H2.mono (m := n + 26) (by omega)).good' (Nat.le_refl _))
        (by
          intro i hi B m hh ⟨HB, b0, b1, b2, hall⟩ hB H
          have hm : n + 27 ≤ m := H.le
          have hall2 : ((items Mn Mv).take (i + 1)).all (fun x => met x (items Mn' Mv')) = met (items Mn Mv)[i] (items Mn' Mv') := by
            rw [take_snoc hi, List.all_append, hall]; simp
          have hbig : met (items Mn Mv)[i] (items Mn' Mv') = false → (items Mn Mv).all (fun x => met x (items Mn' Mv')) = false := fun hf => List.all_eq_false.2 ⟨_, List.getElem_mem hi, by rw [hf]; decide⟩
          replace hall2 : ((items Mn Mv).take (i + 1)).all (fun x => met x (items Mn' Mv')) = met (items Mn Mv)[i] (items Mn' Mv') := hall2
          show ∃ e1 n1 h1 x e2 n2 h2 B', LX (cF Go.Proofs.Try.prog) _ (putT (po 25) (.agg [.int .i64 (items Mn Mv)[i].1, .int .i64 (items Mn Mv)[i].2]) E0) m hh = _ ∧ _
          generalize (items Mn Mv)[i] = X at hall2 hbig
          obtain ⟨xa, xb⟩ := X
          have b1' : getO hh (n + 1) = (Ob.row 2 [.agg [.int .i64 (Mn'), slD 2 encV (Sl.app Mv')]]) := by rw [H.get (by omega)]; exact b1
          have H3 : Hp (n + 26 + 1) B (m + 3) ((m + 2, .row 1 [.bool false]) :: (m, .row 2 [.agg [.int .i64 xa, .int .i64 xb]]) :: hh) := (H.box (r := m) (m := m + 1) (Nat.le_refl _) (by omega) rfl).box (by omega) (by omega) rfl
          have c3 : ∀ m', m + 3 ≤ m' → callFn (LX (cF Go.Proofs.Try.prog)) m' ((m + 2, .row 1 [.bool false]) :: (m, .row 2 [.agg [.int .i64 xa, .int .i64 xb]]) :: hh) [(D.agg [.int .i64 (Mn'), slD 2 encV (Sl.app Mv')])] (cF Go.Proofs.Try.prog 78) = .ok (.fn 82 [] [.ip (D.agg [.int .i64 (Mn'), slD 2 encV (Sl.app Mv')]) 0]) m' ((m + 2, .row 1 [.bool false]) :: (m, .row 2 [.agg [.int .i64 xa, .int .i64 xb]]) :: hh) := fun m' hm' => lvLeast m' _ (H3.good' hm') Mn' (Sl.app Mv')
          refine rnd_intro (by simp (disch := first | assumption | omega | (simp (disch := first | assumption | omega) only [sB, Nat.reduceAdd, Nat.reduceLT, Nat.reduceLeDiff, Nat.reduceEqDiff, Nat.reduceMul, ↓reduceIte]; done) | fail) only [sA, ↓reduceIte, Nat.reduceLT, Nat.reduceEqDiff, Nat.reduceAdd, Nat.reduceLeDiff]; rfl) ?_
          simp (disch := first | assumption | omega | (simp (disch := first | assumption | omega) only [sB, Nat.reduceAdd, Nat.reduceLT, Nat.reduceLeDiff, Nat.reduceEqDiff, Nat.reduceMul, ↓reduceIte]; done) | fail) only [sA, ↓reduceIte, Nat.reduceLT, Nat.reduceEqDiff, Nat.reduceAdd, Nat.reduceLeDiff, g2, g3, g4, b1', c3]
          generalize hr2 : LX (cF Go.Proofs.Try.prog) (.rng _ _ _ _) _ _ _ = r2
          generalize hE2 : putT (po 27) _ _ = E2 at hr2
          have k6 : get (po 6) E2 = .ptr m 0 0 := by rw [← hE2]; simp (disch := first | assumption | omega | (simp (disch := first | assumption | omega) only [sB, Nat.reduceAdd, Nat.reduceLT, Nat.reduceLeDiff, Nat.reduceEqDiff, Nat.reduceMul, ↓reduceIte]; done) | fail) only [sA, ↓reduceIte, Nat.reduceLT, Nat.reduceEqDiff, Nat.reduceAdd, Nat.reduceLeDiff]
          have k7 : get (po 7) E2 = .ptr (m + 2) 0 0 := by rw [← hE2]; simp (disch := first | assumption | omega | (simp (disch := first | assumption | omega) only [sB, Nat.reduceAdd, Nat.reduceLT, Nat.reduceLeDiff, Nat.reduceEqDiff, Nat.reduceMul, ↓reduceIte]; done) | fail) only [sA, ↓reduceIte, Nat.reduceLT, Nat.reduceEqDiff, Nat.reduceAdd, Nat.reduceLeDiff]
          have k4 : get (po 4) E2 = .ptr (n + 2) 0 0 := by rw [← hE2]; simp (disch := first | assumption | omega | (simp (disch := first | assumption | omega) only [sB, Nat.reduceAdd, Nat.reduceLT, Nat.reduceLeDiff, Nat.reduceEqDiff, Nat.reduceMul, ↓reduceIte]; done) | fail) only [sA, ↓reduceIte, Nat.reduceLT, Nat.reduceEqDiff, Nat.reduceAdd, Nat.reduceLeDiff, g4]
          have hf2 : ev E2 (.s (po 27)) = .fn 82 [] [.ip (D.agg [.int .i64 (Mn'), slD 2 encV (Sl.app Mv')]) 0] := by rw [← hE2]; simp (disch := first | assumption | omega | (simp (disch := first | assumption | omega) only [sB, Nat.reduceAdd, Nat.reduceLT, Nat.reduceLeDiff, Nat.reduceEqDiff, Nat.reduceMul, ↓reduceIte]; done) | fail) only [sA, ↓reduceIte, Nat.reduceLT, Nat.reduceEqDiff, Nat.reduceAdd, Nat.reduceLeDiff]
          clear hE2
          obtain ⟨x, B2, rfl, hB2, hq2⟩ := rng_at hr2 hf2 (show Mv'.length < _ by omega) (w := Mv') rfl
            (fun k Bi => Hp (n + 26 + 1) B (m + 7) Bi ∧ getO Bi m = .row 2 [.agg [.int .i64 xa, .int .i64 xb]] ∧ getO Bi (m + 2) = .row 1 [.bool (met (xa, xb) ((items Mn' Mv').take k))])
            (fun _ _ => False)
            ⟨H3.mono (by omega), by simp (disch := first | assumption | omega | (simp (disch := first | assumption | omega) only [sB, Nat.reduceAdd, Nat.reduceLT, Nat.reduceLeDiff, Nat.reduceEqDiff, Nat.reduceMul, ↓reduceIte]; done) | fail) only [sA, ↓reduceIte, Nat.reduceLT, Nat.reduceEqDiff, Nat.reduceAdd, Nat.reduceLeDiff], by simp (disch := first | assumption | omega | (simp (disch := first | assumption | omega) only [sB, Nat.reduceAdd, Nat.reduceLT, Nat.reduceLeDiff, Nat.reduceEqDiff, Nat.reduceMul, ↓reduceIte]; done) | fail) only [sA, ↓reduceIte, Nat.reduceLT, Nat.reduceEqDiff, Nat.reduceAdd, Nat.reduceLeDiff]; rfl⟩ ((H3.mono (m := m + 7) (by omega)).good' (Nat.le_refl _))
            (by
              intro k hk Bi m2 h2 ⟨HBi, d0, d1⟩ hBi H5
              have hm2 : m + 8 ≤ m2 := H5.le
              have hsn : met (xa, xb) ((items Mn' Mv').take (k + 1)) = (met (xa, xb) ((items Mn' Mv').take k) || (decide (xb ≤ (items Mn' Mv')[k].2) && (decide (xa < 0) || decide (xa = (items Mn' Mv')[k].1)))) := by rw [take_snoc hk, met_snoc]
              show ∃ e1 n1 h1 x e2 n2 h2' B', LX (cF Go.Proofs.Try.prog) _ (putT (po 28) (.agg [.int .i64 (items Mn' Mv')[k].1, .int .i64 (items Mn' Mv')[k].2]) E2) m2 h2 = _ ∧ _
              generalize (items Mn' Mv')[k] = Y at hsn
              obtain ⟨ya, yb⟩ := Y
              have d0' : getO h2 m = .row 2 [.agg [.int .i64 xa, .int .i64 xb]] := by rw [H5.get (by omega)]; exact d0
              have d1' : getO h2 (m + 2) = .row 1 [.bool (met (xa, xb) ((items Mn' Mv').take k))] := by rw [H5.get (by omega)]; exact d1
              have fin : ∀ (t : Bool) (m3 : Nat), met (xa, xb) ((items Mn' Mv').take (k + 1)) = t → m2 + 1 ≤ m3 → (∀ q, m + 7 ≤ q → GoodAt q (setO Bi (m + 2) (.row 1 [.bool t]))) ∧ Hp (m + 7 + 1) (setO Bi (m + 2) (.row 1 [.bool t])) m3 ((m2, .row 2 [.agg [.int .i64 ya, .int .i64 yb]]) :: setO h2 (m + 2) (.row 1 [.bool t])) ∧ Hp (n + 26 + 1) B (m + 7) (setO Bi (m + 2) (.row 1 [.bool t])) ∧ getO (setO Bi (m + 2) (.row 1 [.bool t])) m = .row 2 [.agg [.int .i64 xa, .int .i64 xb]] ∧ getO (setO Bi (m + 2) (.row 1 [.bool t])) (m + 2) = .row 1 [.bool (met (xa, xb) ((items Mn' Mv').take (k + 1)))] := by
                intro t m3 ht hm3
                have hl : ∀ q, lowO q (.row 1 [.bool t]) := fun q => lowO_one (low_flat rfl)
                exact ⟨fun q hq => good_set (hBi q hq) (hl q), ((H5.setLow (r := m + 2) (x := .row 1 [.bool t]) (by omega) (hl _) (fun q _ => hl q)).box (r := m2) (m := m2 + 1) (Nat.le_refl _) (by omega) rfl).mono hm3, HBi.set (by omega) (fun q _ => hl q), getO_set2 d1 d0 (by omega), by rw [ht]; exact getO_set1 d1⟩
              refine rnd_intro (by simp (disch := first | assumption | omega | (simp (disch := first | assumption | omega) only [sB, Nat.reduceAdd, Nat.reduceLT, Nat.reduceLeDiff, Nat.reduceEqDiff, Nat.reduceMul, ↓reduceIte]; done) | fail) only [sA, ↓reduceIte, Nat.reduceLT, Nat.reduceEqDiff, Nat.reduceAdd, Nat.reduceLeDiff]; rfl) ?_
              cases hacc : met (xa, xb) ((items Mn' Mv').take k) with
              | true =>
                rw [hacc, Bool.true_or] at hsn
                rw [hacc] at d1'
                obtain ⟨f1, f2, f3, f4, f5⟩ := fin true _ hsn (Nat.le_refl _)
                simp (disch := first | assumption | omega | (simp (disch := first | assumption | omega) only [sB, Nat.reduceAdd, Nat.reduceLT, Nat.reduceLeDiff, Nat.reduceEqDiff, Nat.reduceMul, ↓reduceIte]; done) | fail) only [sA, ↓reduceIte, Nat.reduceLT, Nat.reduceEqDiff, Nat.reduceAdd, Nat.reduceLeDiff, k6, k7, d0', d1']
                exact ⟨_, _, _, _, _, rfl, f1, f2.mono (by omega), by omega, .inl ⟨rfl, f3, f4, f5⟩⟩
              | false =>
                rw [hacc, Bool.false_or] at hsn
                rw [hacc] at d1'
                replace hsn : met (xa, xb) ((items Mn' Mv').take (k + 1)) = (decide (xb ≤ yb) && (decide (xa < 0) || decide (xa = ya))) := hsn
                by_cases a1 : xb ≤ yb
                · rw [decide_eq_true a1, Bool.true_and] at hsn
                  by_cases a2 : xa < 0
                  · rw [decide_eq_true a2, Bool.true_or] at hsn
                    obtain ⟨f1, f2, f3, f4, f5⟩ := fin true _ hsn (Nat.le_refl _)
                    simp (disch := first | assumption | omega | (simp (disch := first | assumption | omega) only [sB, Nat.reduceAdd, Nat.reduceLT, Nat.reduceLeDiff, Nat.reduceEqDiff, Nat.reduceMul, ↓reduceIte]; done) | fail) only [sA, ↓reduceIte, Nat.reduceLT, Nat.reduceEqDiff, Nat.reduceAdd, Nat.reduceLeDiff, k6, k7, d0', d1']
                    exact ⟨_, _, _, _, _, rfl, f1, f2.mono (by omega), by omega, .inl ⟨rfl, f3, f4, f5⟩⟩
                  · rw [decide_eq_false a2, Bool.false_or] at hsn
                    by_cases a3 : xa = ya
                    · rw [decide_eq_true a3] at hsn
                      obtain ⟨f1, f2, f3, f4, f5⟩ := fin true _ hsn (Nat.le_refl _)
                      simp (disch := first | assumption | omega | (simp (disch := first | assumption | omega) only [sB, Nat.reduceAdd, Nat.reduceLT, Nat.reduceLeDiff, Nat.reduceEqDiff, Nat.reduceMul, ↓reduceIte]; done) | fail) only [sA, ↓reduceIte, Nat.reduceLT, Nat.reduceEqDiff, Nat.reduceAdd, Nat.reduceLeDiff, k6, k7, d0', d1']
                      exact ⟨_, _, _, _, _, rfl, f1, f2.mono (by omega), by omega, .inl ⟨rfl, f3, f4, f5⟩⟩
                    · rw [decide_eq_false a3] at hsn
                      obtain ⟨f1, f2, f3, f4, f5⟩ := fin false _ hsn (Nat.le_refl _)
                      simp (disch := first | assumption | omega | (simp (disch := first | assumption | omega) only [sB, Nat.reduceAdd, Nat.reduceLT, Nat.reduceLeDiff, Nat.reduceEqDiff, Nat.reduceMul, ↓reduceIte]; done) | fail) only [sA, ↓reduceIte, Nat.reduceLT, Nat.reduceEqDiff, Nat.reduceAdd, Nat.reduceLeDiff, k6, k7, d0', d1']
                      exact ⟨_, _, _, _, _, rfl, f1, f2.mono (by omega), by omega, .inl ⟨rfl, f3, f4, f5⟩⟩
                · rw [decide_eq_false a1, Bool.false_and] at hsn
                  obtain ⟨f1, f2, f3, f4, f5⟩ := fin false _ hsn (Nat.le_refl _)
                  simp (disch := first | assumption | omega | (simp (disch := first | assumption | omega) only [sB, Nat.reduceAdd, Nat.reduceLT, Nat.reduceLeDiff, Nat.reduceEqDiff, Nat.reduceMul, ↓reduceIte]; done) | fail) only [sA, ↓reduceIte, Nat.reduceLT, Nat.reduceEqDiff, Nat.reduceAdd, Nat.reduceLeDiff, k6, k7, d0', d1']
                  exact ⟨_, _, _, _, _, rfl, f1, f2.mono (by omega), by omega, .inl ⟨rfl, f3, f4, f5⟩⟩)
          rcases hq2 with ⟨rfl, HB2, d0, d1⟩ | ⟨_, hq2⟩
          · rw [List.take_length] at d1
            have hl : ∀ q, lowO q (.row 1 [.bool false]) := fun q => lowO_one (low_flat rfl)
            have d2 : getO B2 (n + 2) = .row 1 [.bool false] := by rw [HB2.get (by omega)]; exact b2
            cases hmet : met (xa, xb) (items Mn' Mv') with
            | true =>
              rw [show met (xa, xb) (items Mn' Mv') = true from hmet] at d1
              simp (disch := first | assumption | omega | (simp (disch := first | assumption | omega) only [sB, Nat.reduceAdd, Nat.reduceLT, Nat.reduceLeDiff, Nat.reduceEqDiff, Nat.reduceMul, ↓reduceIte]; done) | fail) only [sA, ↓reduceIte, Nat.reduceLT, Nat.reduceEqDiff, Nat.reduceAdd, Nat.reduceLeDiff, k7, d1]
              exact ⟨_, _, _, _, B, rfl, hB, HB2.mono (by omega), by omega, .inl ⟨rfl, HB, b0, b1, b2, hall2.trans hmet⟩⟩
            | false =>
              rw [show met (xa, xb) (items Mn' Mv') = false from hmet] at d1
              simp (disch := first | assumption | omega | (simp (disch := first | assumption | omega) only [sB, Nat.reduceAdd, Nat.reduceLT, Nat.reduceLeDiff, Nat.reduceEqDiff, Nat.reduceMul, ↓reduceIte]; done) | fail) only [sA, ↓reduceIte, Nat.reduceLT, Nat.reduceEqDiff, Nat.reduceAdd, Nat.reduceLeDiff, k4, k7, d1, d2]
              exact ⟨_, _, _, _, setO B (n + 2) (.row 1 [.bool false]), rfl, fun q hq => good_set (hB q hq) (hl q), (HB2.setLow (by omega) (hl _) (fun q _ => hl q)).mono (by omega), by omega, .inr ⟨by simp, rfl, HB.set (by omega) (fun q _ => hl q), getO_set1 b2, hbig hmet⟩⟩
          · exact absurd hq2 id)
      rcases hq with ⟨rfl, HB, b0, b1, b2, hall⟩ | ⟨_, rfl, HB, b2, hall⟩
      · rw [List.take_length] at hall
        rw [show (items Mn Mv).all (fun x => met x (items Mn' Mv')) = true from hall]
        have b4 : getO (setO B' (n + 2) (.row 1 [.bool true])) (n + 2) = .row 1 [.bool true] := getO_set1 b2
        have F4 := fun m hm => finish_flat (d := .bool true) rfl ((HB.set (r := n + 2) (x := .row 1 [.bool true]) (by omega) (fun q _ => lowO_one (low_flat rfl))).mono (m := m) hm)
        simp (disch := first | assumption | omega | (simp (disch := first | assumption | omega) only [sB, Nat.reduceAdd, Nat.reduceLT, Nat.reduceLeDiff, Nat.reduceEqDiff, Nat.reduceMul, ↓reduceIte]; done) | fail) only [sA, ↓reduceIte, Nat.reduceLT, Nat.reduceEqDiff, Nat.reduceAdd, Nat.reduceLeDiff, g4, b2, b4, F4]
      · rw [hall]
        have F4 := fun m hm => finish_flat (d := .bool false) rfl (HB.mono (m := m) hm)
        simp (disch := first | assumption | omega | (simp (disch := first | assumption | omega) only [sB, Nat.reduceAdd, Nat.reduceLT, Nat.reduceLeDiff, Nat.reduceEqDiff, Nat.reduceMul, ↓reduceIte]; done) | fail) only [sA, ↓reduceIte, Nat.reduceLT, Nat.reduceEqDiff, Nat.reduceAdd, Nat.reduceLeDiff, g4, b2, F4]
    · rw [Bool.not_eq_true] at hb'
      rw [nrm_wrong (by rw [hb']; decide)] at c1
      rw [hb', Bool.false_and]
      rw [f45_eq]; unfold c45; rw [callFn_eq (by rfl)]
      simp (disch := first | assumption | omega | (simp (disch := first | assumption | omega) only [sB, Nat.reduceAdd, Nat.reduceLT, Nat.reduceLeDiff, Nat.reduceEqDiff, Nat.reduceMul, ↓reduceIte]; done) | fail) only [sA, ↓reduceIte, Nat.reduceLT, Nat.reduceEqDiff, Nat.reduceAdd, Nat.reduceLeDiff, c0, c1, s3, s3', slD_nil]
  · rw [Bool.not_eq_true] at hb
    rw [nrm_wrong (by rw [hb]; decide)] at c0
    rw [hb, Bool.false_and, Bool.false_and]
    rw [f45_eq]; unfold c45; rw [callFn_eq (by rfl)]
    simp (disch := first | assumption | omega | (simp (disch := first | assumption | omega) only [sB, Nat.reduceAdd, Nat.reduceLT, Nat.reduceLeDiff, Nat.reduceEqDiff, Nat.reduceMul, ↓reduceIte]; done) | fail) only [sA, ↓reduceIte, Nat.reduceLT, Nat.reduceEqDiff, Nat.reduceAdd, Nat.reduceLeDiff, c0, s3, s3', slD_nil]
end Go.Proofs.Ytjagmfgjlfkmgaa

/- Levels put in for the variables of a level, as the program does it. No condition. -/
namespace Go.Proofs.Ytjagmfgjlfkmgaa
open Go

def badL : Lev × Int := (⟨0, []⟩, 13)
/-- variable by variable -/
def sbLoop (args : List Lev) : List LV → Lev → Lev × Int
  | [], out => out.told
  | v :: t, out => match args[v.1.toNat]? with
    | none => badL
    | some a => if (a.suc v.2).2 ≠ 0 then badL else if (out.max2 (a.suc v.2).1).2 ≠ 0 then badL else sbLoop args t (out.max2 (a.suc v.2).1).1
def Lev.subst (l : Lev) (args : List Lev) : Lev × Int := if l.right then (if args.all Lev.right then sbLoop args l.norm.v ⟨l.norm.n, []⟩ else badL) else badL
theorem told_size (l : Lev) : l.told.1.v.length ≤ 64 := by
  unfold Lev.told
  split
  · rename_i h; exact (right_iff.1 h).2.1
  · exact Nat.zero_le _
theorem suc_size (l : Lev) (k : Int) : (l.suc k).1.v.length ≤ 64 := by
  unfold Lev.suc
  split
  · split
    · exact Nat.zero_le _
    · split
      · exact Nat.zero_le _
      · exact told_size _
  · exact Nat.zero_le _
theorem max_size (a b : Lev) : (a.max2 b).1.v.length ≤ 64 := by
  unfold Lev.max2
  split
  · split
    · exact told_size _
    · exact Nat.zero_le _
  · exact Nat.zero_le _

set_option maxHeartbeats 4000000 in
theorem lvSubst (n : Nat) (h : Hps) (hg : ∀ k, n ≤ k → GoodAt k h) (N : Int) (d : D) (l : List LV) (ad : Nat → D) (S : Sv 2 encV n h d l ad) (hs : l.length < 1000000000000) (args : Sl SLev) (ha : args.el.length < 1000000000000) (hz : ∀ a, a ∈ args.el → sizeOk a) :
    callFn (LX (cF Go.Proofs.Try.prog)) n h [(D.agg [.int .i64 (N), d]), slD 2 encL args] (cF Go.Proofs.Try.prog 47) = .ok (D.tup [.agg [.int .i64 (Lev.subst ⟨N, l⟩ (args.el.map SLev.lev)).1.n, slD 2 encV (Sl.app (Lev.subst ⟨N, l⟩ (args.el.map SLev.lev)).1.v)], .int .i64 (Lev.subst ⟨N, l⟩ (args.el.map SLev.lev)).2]) n h := by
  have s3 := S.okD
  have hgn := hg n (Nat.le_refl _)
  have H0 : Hp n h (n + 2) ((n + 1, (Ob.row 2 [.agg [.int .i64 0, .nils]])) :: (n, (Ob.row 2 [.agg [.int .i64 (N), d]])) :: h) := ((Hp.start hg).cons (r := n) (m := n + 1) (Nat.le_refl _) (by omega) (fun k hk => S.box2 (by omega))).box (m := n + 2) (r := n + 1) (by omega) (by omega) rfl
  have c0 : ∀ m, n + 2 ≤ m → callFn (LX (cF Go.Proofs.Try.prog)) m ((n + 1, (Ob.row 2 [.agg [.int .i64 0, .nils]])) :: (n, (Ob.row 2 [.agg [.int .i64 (N), d]])) :: h) [(D.agg [.int .i64 (N), d])] (cF Go.Proofs.Try.prog 36) = .ok (D.tup [.agg [.int .i64 (Lev.nrm ⟨N, l⟩).1.n, slD 2 encV (Sl.app (Lev.nrm ⟨N, l⟩).1.v)], .int .i64 (Lev.nrm ⟨N, l⟩).2]) m ((n + 1, (Ob.row 2 [.agg [.int .i64 0, .nils]])) :: (n, (Ob.row 2 [.agg [.int .i64 (N), d]])) :: h) := fun m hm => lvNorm m _ (H0.good' hm) N d l ad (S.mono H0 hm) hs
  unfold Lev.subst
  by_cases hb : Lev.right ⟨N, l⟩ = true
  · rw [if_pos hb]
    rw [nrm_right hb] at c0
    have hr := right_iff.1 (right_norm hb)
    generalize hN : Lev.norm ⟨N, l⟩ = M at c0 hr ⊢
    obtain ⟨Mn, Mv⟩ := M
    obtain ⟨hMn, hlen, hMv⟩ := hr
    replace hlen : Mv.length ≤ 64 := hlen
    have H1 : Hp n h (n + 2) ((n + 1, (Ob.row 2 [.agg [.int .i64 0, .nils]])) :: (n, (Ob.row 2 [.agg [.int .i64 (Mn), slD 2 encV (Sl.app Mv)]])) :: h) := ((Hp.start hg).box (r := n) (m := n + 1) (Nat.le_refl _) (by omega) (flatL ⟨Mn, Sl.app Mv⟩)).box (m := n + 2) (r := n + 1) (by omega) (by omega) rfl
    generalize hR : (if ((args.el.map SLev.lev).all Lev.right) = true then sbLoop (args.el.map SLev.lev) Mv ⟨Mn, []⟩ else badL) = R
    replace hR : (if ((args.el.map SLev.lev).all Lev.right) = true then sbLoop (args.el.map SLev.lev) Mv ⟨Mn, []⟩ else badL) = R := hR
    rw [f47_eq]; unfold c47; rw [callFn_eq (by rfl)]
    simp (disch := first | assumption | omega | (simp (disch := first | assumption | omega) only [sB, Nat.reduceAdd, Nat.reduceLT, Nat.reduceLeDiff, Nat.reduceEqDiff, Nat.reduceMul, ↓reduceIte]; done) | fail) only [sA, ↓reduceIte, Nat.reduceLT, Nat.reduceEqDiff, Nat.reduceAdd, Nat.reduceLeDiff, c0, s3]
    generalize hr : LX (cF Go.Proofs.Try.prog) (.loop l47_0) _ _ _ = r
    obtain ⟨x, e2, n2, h2, rfl, H2, p2, q⟩ := loop_up hr args.el.length
      (fun i e n' h' => Hp n h n' h' ∧ n + 2 ≤ n' ∧ getO h' n = (Ob.row 2 [.agg [.int .i64 (Mn), slD 2 encV (Sl.app Mv)]]) ∧ getO h' (n + 1) = (Ob.row 2 [.agg [.int .i64 0, .nils]]) ∧ ((args.el.map SLev.lev).drop i).all Lev.right = (args.el.map SLev.lev).all Lev.right ∧ get (po 1) e = slD 2 encL args ∧ get (po 2) e = .ptr n 0 0 ∧ get (po 4) e = .ptr (n + 1) 0 0 ∧ get (po 23) e = slD 2 encL args ∧ get (po 24) e = .int .i64 (args.el.length : Nat) ∧ get (po 25) e = .int .i64 (i : Nat))
      (fun x e n' h' => Hp n h n' h' ∧ n + 2 ≤ n' ∧ ((x = .exit 0 ∧ (args.el.map SLev.lev).all Lev.right = true ∧ getO h' n = (Ob.row 2 [.agg [.int .i64 (Mn), slD 2 encV (Sl.app Mv)]]) ∧ getO h' (n + 1) = (Ob.row 2 [.agg [.int .i64 0, .nils]]) ∧ get (po 1) e = slD 2 encL args ∧ get (po 2) e = .ptr n 0 0 ∧ get (po 4) e = .ptr (n + 1) 0 0) ∨
        (x = .ret ∧ (args.el.map SLev.lev).all Lev.right = false ∧ getO h' (n + 1) = (Ob.row 2 [.agg [.int .i64 0, .nils]]) ∧ get (po 4) e = .ptr (n + 1) 0 0 ∧ get (po 5) e = .int .i64 13)))
      (by
        rintro e n' h' ⟨H, p1, b0, b1, hall, g1, g2, g4, g23, g24, g25⟩
        unfold l47_0
        simp (disch := first | assumption | omega | (simp (disch := first | assumption | omega) only [sB, Nat.reduceAdd, Nat.reduceLT, Nat.reduceLeDiff, Nat.reduceEqDiff, Nat.reduceMul, ↓reduceIte]; done) | fail) only [sA, ↓reduceIte, Nat.reduceLT, Nat.reduceEqDiff, Nat.reduceAdd, Nat.reduceLeDiff, g23, g24, g25]
        exact ⟨_, _, _, _, rfl, by simp, H.mono (by omega), by omega, .inl ⟨rfl, by rw [← hall, ← List.length_map (f := SLev.lev), List.drop_length]; rfl, b0, b1, by simp (disch := first | assumption | omega | (simp (disch := first | assumption | omega) only [sB, Nat.reduceAdd, Nat.reduceLT, Nat.reduceLeDiff, Nat.reduceEqDiff, Nat.reduceMul, ↓reduceIte]; done) | fail) only [sA, ↓reduceIte, Nat.reduceLT, Nat.reduceEqDiff, Nat.reduceAdd, Nat.reduceLeDiff, g1], by simp (disch := first | assumption | omega | (simp (disch := first | assumption | omega) only [sB, Nat.reduceAdd, Nat.reduceLT, Nat.reduceLeDiff, Nat.reduceEqDiff, Nat.reduceMul, ↓reduceIte]; done) | fail) only [sA, ↓reduceIte, Nat.reduceLT, Nat.reduceEqDiff, Nat.reduceAdd, Nat.reduceLeDiff, g2], by simp (disch := first | assumption | omega | (simp (disch := first | assumption | omega) only [sB, Nat.reduceAdd, Nat.reduceLT, Nat.reduceLeDiff, Nat.reduceEqDiff, Nat.reduceMul, ↓reduceIte]; done) | fail) only [sA, ↓reduceIte, Nat.reduceLT, Nat.reduceEqDiff, Nat.reduceAdd, Nat.reduceLeDiff, g4]⟩⟩)
      (by
        rintro i e n' h' hi ⟨H, p1, b0, b1, hall, g1, g2, g4, g23, g24, g25⟩
        rw [List.drop_eq_getElem_cons (by rw [List.length_map]; exact hi), List.all_cons, List.getElem_map] at hall
        have H1 : Hp n h (n' + 4) ((n' + 3, (Ob.row 2 [.agg [.int .i64 (args.el[i].n), slD 2 encV (args.el[i].vs)]])) :: h') := H.box (by omega) (by omega) (flatL args.el[i])
        have c1 : ∀ m, n' + 4 ≤ m → callFn (LX (cF Go.Proofs.Try.prog)) m ((n' + 3, (Ob.row 2 [.agg [.int .i64 (args.el[i].n), slD 2 encV (args.el[i].vs)]])) :: h') [(D.agg [.int .i64 (args.el[i].n), slD 2 encV (args.el[i].vs)])] (cF Go.Proofs.Try.prog 68) = .ok (.bool args.el[i].lev.right) m ((n' + 3, (Ob.row 2 [.agg [.int .i64 (args.el[i].n), slD 2 encV (args.el[i].vs)]])) :: h') := fun m hm => lvRight m _ (H1.good' hm) _ _ _ _ (svV _) (hz _ (List.getElem_mem hi))
        unfold l47_0
        cases hri : args.el[i].lev.right with
        | true =>
          rw [hri] at c1 hall
          simp (disch := first | assumption | omega | (simp (disch := first | assumption | omega) only [sB, Nat.reduceAdd, Nat.reduceLT, Nat.reduceLeDiff, Nat.reduceEqDiff, Nat.reduceMul, ↓reduceIte]; done) | fail) only [sA, ↓reduceIte, Nat.reduceLT, Nat.reduceEqDiff, Nat.reduceAdd, Nat.reduceLeDiff, g23, g24, g25, encL, c1]
          exact ⟨_, _, _, _, rfl, .inl ⟨rfl, H1.mono (by omega), by omega, getO_keep b0 (by omega), getO_keep b1 (by omega), hall, by simp (disch := first | assumption | omega | (simp (disch := first | assumption | omega) only [sB, Nat.reduceAdd, Nat.reduceLT, Nat.reduceLeDiff, Nat.reduceEqDiff, Nat.reduceMul, ↓reduceIte]; done) | fail) only [sA, ↓reduceIte, Nat.reduceLT, Nat.reduceEqDiff, Nat.reduceAdd, Nat.reduceLeDiff, g1], by simp (disch := first | assumption | omega | (simp (disch := first | assumption | omega) only [sB, Nat.reduceAdd, Nat.reduceLT, Nat.reduceLeDiff, Nat.reduceEqDiff, Nat.reduceMul, ↓reduceIte]; done) | fail) only [sA, ↓reduceIte, Nat.reduceLT, Nat.reduceEqDiff, Nat.reduceAdd, Nat.reduceLeDiff, g2], by simp (disch := first | assumption | omega | (simp (disch := first | assumption | omega) only [sB, Nat.reduceAdd, Nat.reduceLT, Nat.reduceLeDiff, Nat.reduceEqDiff, Nat.reduceMul, ↓reduceIte]; done) | fail) only [sA, ↓reduceIte, Nat.reduceLT, Nat.reduceEqDiff, Nat.reduceAdd, Nat.reduceLeDiff, g4], by simp (disch := first | assumption | omega | (simp (disch := first | assumption | omega) only [sB, Nat.reduceAdd, Nat.reduceLT, Nat.reduceLeDiff, Nat.reduceEqDiff, Nat.reduceMul, ↓reduceIte]; done) | fail) only [sA, ↓reduceIte, Nat.reduceLT, Nat.reduceEqDiff, Nat.reduceAdd, Nat.reduceLeDiff, g23], by simp (disch := first | assumption | omega | (simp (disch := first | assumption | omega) only [sB, Nat.reduceAdd, Nat.reduceLT, Nat.reduceLeDiff, Nat.reduceEqDiff, Nat.reduceMul, ↓reduceIte]; done) | fail) only [sA, ↓reduceIte, Nat.reduceLT, Nat.reduceEqDiff, Nat.reduceAdd, Nat.reduceLeDiff, g24], by simp (disch := first | assumption | omega | (simp (disch := first | assumption | omega) only [sB, Nat.reduceAdd, Nat.reduceLT, Nat.reduceLeDiff, Nat.reduceEqDiff, Nat.reduceMul, ↓reduceIte]; done) | fail) only [sA, ↓reduceIte, Nat.reduceLT, Nat.reduceEqDiff, Nat.reduceAdd, Nat.reduceLeDiff]⟩⟩
        | false =>
          rw [hri] at c1 hall
          simp (disch := first | assumption | omega | (simp (disch := first | assumption | omega) only [sB, Nat.reduceAdd, Nat.reduceLT, Nat.reduceLeDiff, Nat.reduceEqDiff, Nat.reduceMul, ↓reduceIte]; done) | fail) only [sA, ↓reduceIte, Nat.reduceLT, Nat.reduceEqDiff, Nat.reduceAdd, Nat.reduceLeDiff, g4, g23, g24, g25, encL, c1, b1]
          exact ⟨_, _, _, _, rfl, .inr ⟨by simp, ((H.set (r := n + 1) (x := (Ob.row 2 [.agg [.int .i64 0, .nils]])) (by omega) (fun q _ => lowO_one (low_flat rfl))).box (r := n' + 3) (m := n' + 4) (by omega) (by omega) (flatL args.el[i])).mono (by omega), by omega, .inr ⟨rfl, hall.symm, getO_keep (getO_set1 b1) (by omega), by simp (disch := first | assumption | omega | (simp (disch := first | assumption | omega) only [sB, Nat.reduceAdd, Nat.reduceLT, Nat.reduceLeDiff, Nat.reduceEqDiff, Nat.reduceMul, ↓reduceIte]; done) | fail) only [sA, ↓reduceIte, Nat.reduceLT, Nat.reduceEqDiff, Nat.reduceAdd, Nat.reduceLeDiff, g4], by simp (disch := first | assumption | omega | (simp (disch := first | assumption | omega) only [sB, Nat.reduceAdd, Nat.reduceLT, Nat.reduceLeDiff, Nat.reduceEqDiff, Nat.reduceMul, ↓reduceIte]; done) | fail) only [sA, ↓reduceIte, Nat.reduceLT, Nat.reduceEqDiff, Nat.reduceAdd, Nat.reduceLeDiff]⟩⟩⟩)
      ⟨H1.mono (by omega), by omega, by simp (disch := first | assumption | omega | (simp (disch := first | assumption | omega) only [sB, Nat.reduceAdd, Nat.reduceLT, Nat.reduceLeDiff, Nat.reduceEqDiff, Nat.reduceMul, ↓reduceIte]; done) | fail) only [sA, ↓reduceIte, Nat.reduceLT, Nat.reduceEqDiff, Nat.reduceAdd, Nat.reduceLeDiff], by simp (disch := first | assumption | omega | (simp (disch := first | assumption | omega) only [sB, Nat.reduceAdd, Nat.reduceLT, Nat.reduceLeDiff, Nat.reduceEqDiff, Nat.reduceMul, ↓reduceIte]; done) | fail) only [sA, ↓reduceIte, Nat.reduceLT, Nat.reduceEqDiff, Nat.reduceAdd, Nat.reduceLeDiff], rfl, by simp (disch := first | assumption | omega | (simp (disch := first | assumption | omega) only [sB, Nat.reduceAdd, Nat.reduceLT, Nat.reduceLeDiff, Nat.reduceEqDiff, Nat.reduceMul, ↓reduceIte]; done) | fail) only [sA, ↓reduceIte, Nat.reduceLT, Nat.reduceEqDiff, Nat.reduceAdd, Nat.reduceLeDiff], by simp (disch := first | assumption | omega | (simp (disch := first | assumption | omega) only [sB, Nat.reduceAdd, Nat.reduceLT, Nat.reduceLeDiff, Nat.reduceEqDiff, Nat.reduceMul, ↓reduceIte]; done) | fail) only [sA, ↓reduceIte, Nat.reduceLT, Nat.reduceEqDiff, Nat.reduceAdd, Nat.reduceLeDiff], by simp (disch := first | assumption | omega | (simp (disch := first | assumption | omega) only [sB, Nat.reduceAdd, Nat.reduceLT, Nat.reduceLeDiff, Nat.reduceEqDiff, Nat.reduceMul, ↓reduceIte]; done) | fail) only [sA, ↓reduceIte, Nat.reduceLT, Nat.reduceEqDiff, Nat.reduceAdd, Nat.reduceLeDiff], by simp (disch := first | assumption | omega | (simp (disch := first | assumption | omega) only [sB, Nat.reduceAdd, Nat.reduceLT, Nat.reduceLeDiff, Nat.reduceEqDiff, Nat.reduceMul, ↓reduceIte]; done) | fail) only [sA, ↓reduceIte, Nat.reduceLT, Nat.reduceEqDiff, Nat.reduceAdd, Nat.reduceLeDiff], by simp (disch := first | assumption | omega | (simp (disch := first | assumption | omega) only [sB, Nat.reduceAdd, Nat.reduceLT, Nat.reduceLeDiff, Nat.reduceEqDiff, Nat.reduceMul, ↓reduceIte]; done) | fail) only [sA, ↓reduceIte, Nat.reduceLT, Nat.reduceEqDiff, Nat.reduceAdd, Nat.reduceLeDiff], by simp (disch := first | assumption | omega | (simp (disch := first | assumption | omega) only [sB, Nat.reduceAdd, Nat.reduceLT, Nat.reduceLeDiff, Nat.reduceEqDiff, Nat.reduceMul, ↓reduceIte]; done) | fail) only [sA, ↓reduceIte, Nat.reduceLT, Nat.reduceEqDiff, Nat.reduceAdd, Nat.reduceLeDiff]⟩
    rcases q with ⟨rfl, hall, b0, b1, g1, g2, g4⟩ | ⟨rfl, hall, b1, g4, g5⟩
    · rw [if_pos hall] at hR
      simp (disch := first | assumption | omega | (simp (disch := first | assumption | omega) only [sB, Nat.reduceAdd, Nat.reduceLT, Nat.reduceLeDiff, Nat.reduceEqDiff, Nat.reduceMul, ↓reduceIte]; done) | fail) only [sA, ↓reduceIte, Nat.reduceLT, Nat.reduceEqDiff, Nat.reduceAdd, Nat.reduceLeDiff, g1, g2, g4, b0]
      generalize hr : LX (cF Go.Proofs.Try.prog) (.loop l47_1) _ _ _ = r
      obtain ⟨q9, e9⟩ : ∃ q9, n2 + 3 = q9 := ⟨_, rfl⟩
      rw [e9] at hr
      obtain ⟨x, e3, n3, h3, rfl, H3, p3, b1, g4, q⟩ := loop_up hr Mv.length
        (fun i e n' h' => Hp n h n' h' ∧ q9 + 1 ≤ n' ∧ getO h' (n + 1) = (Ob.row 2 [.agg [.int .i64 0, .nils]]) ∧ get (po 4) e = .ptr (n + 1) 0 0 ∧ ∃ (On : Int) (Ov : List LV), sbLoop (args.el.map SLev.lev) (Mv.drop i) ⟨On, Ov⟩ = R ∧ Ov.length ≤ 64 ∧ getO h' q9 = (Ob.row 2 [.agg [.int .i64 (On), slD 2 encV (Sl.app Ov)]]) ∧
          get (po 1) e = slD 2 encL args ∧ get (po 9) e = .ptr q9 0 0 ∧ get (po 38) e = slD 2 encV (Sl.app Mv) ∧ get (po 39) e = .int .i64 (Mv.length : Nat) ∧ get (po 40) e = .int .i64 (i : Nat))
        (fun x e n' h' => Hp n h n' h' ∧ q9 + 1 ≤ n' ∧ getO h' (n + 1) = (Ob.row 2 [.agg [.int .i64 0, .nils]]) ∧ get (po 4) e = .ptr (n + 1) 0 0 ∧ ((x = .exit 2 ∧ ∃ (On : Int) (Ov : List LV), (⟨On, Ov⟩ : Lev).told = R ∧ Ov.length ≤ 64 ∧ getO h' q9 = (Ob.row 2 [.agg [.int .i64 (On), slD 2 encV (Sl.app Ov)]]) ∧ get (po 9) e = .ptr q9 0 0) ∨
          (x = .ret ∧ R = badL ∧ get (po 5) e = .int .i64 13)))
        (by
          rintro e n' h' ⟨H, p1, b1, g4, On, Ov, hS, hO, b9, g1, g9, g38, g39, g40⟩
          rw [List.drop_length] at hS
          unfold l47_1
          simp (disch := first | assumption | omega | (simp (disch := first | assumption | omega) only [sB, Nat.reduceAdd, Nat.reduceLT, Nat.reduceLeDiff, Nat.reduceEqDiff, Nat.reduceMul, ↓reduceIte]; done) | fail) only [sA, ↓reduceIte, Nat.reduceLT, Nat.reduceEqDiff, Nat.reduceAdd, Nat.reduceLeDiff, g38, g39, g40]
          exact ⟨_, _, _, _, rfl, by simp, H.mono (by omega), by omega, b1, by simp (disch := first | assumption | omega | (simp (disch := first | assumption | omega) only [sB, Nat.reduceAdd, Nat.reduceLT, Nat.reduceLeDiff, Nat.reduceEqDiff, Nat.reduceMul, ↓reduceIte]; done) | fail) only [sA, ↓reduceIte, Nat.reduceLT, Nat.reduceEqDiff, Nat.reduceAdd, Nat.reduceLeDiff, g4], .inl ⟨rfl, On, Ov, hS, hO, b9, by simp (disch := first | assumption | omega | (simp (disch := first | assumption | omega) only [sB, Nat.reduceAdd, Nat.reduceLT, Nat.reduceLeDiff, Nat.reduceEqDiff, Nat.reduceMul, ↓reduceIte]; done) | fail) only [sA, ↓reduceIte, Nat.reduceLT, Nat.reduceEqDiff, Nat.reduceAdd, Nat.reduceLeDiff, g9]⟩⟩)
        (by
          rintro i e n' h' hi ⟨H, p1, b1, g4, On, Ov, hS, hO, b9, g1, g9, g38, g39, g40⟩
          have hnn := H2.le
          rw [List.drop_eq_getElem_cons hi] at hS
          have hv := hMv Mv[i] (List.getElem_mem hi)
          generalize hV : Mv[i] = V at hS hv
          obtain ⟨va, vb⟩ := V
          obtain ⟨vn, rfl⟩ : ∃ vn : Nat, va = (vn : Int) := Int.eq_ofNat_of_zero_le hv.1.1
          have hl : ∀ q, lowO q (Ob.row 2 [.agg [.int .i64 0, .nils]]) := fun q => lowO_one (low_flat rfl)
          have H1 : Hp n h (n' + 4) ((n' + 3, .row 2 [.agg [.int .i64 (vn : Int), .int .i64 vb]]) :: h') := H.box (by omega) (by omega) rfl
          have HZ : Hp n h (n' + 4) ((n' + 3, .row 2 [.agg [.int .i64 (vn : Int), .int .i64 vb]]) :: setO h' (n + 1) (Ob.row 2 [.agg [.int .i64 0, .nils]])) := (H.set (r := n + 1) (x := (Ob.row 2 [.agg [.int .i64 0, .nils]])) (by omega) (fun q _ => hl q)).box (by omega) (by omega) rfl
          have hK : ∀ m, n' + 4 ≤ m → keysFrom m ((n' + 3, .row 2 [.agg [.int .i64 (vn : Int), .int .i64 vb]]) :: h') = [] := fun m hm => keys_low (H1.good' hm m (Nat.le_refl _))
          have hi2 : i < (Sl.app Mv).el.length := hi
          have hV2 : (Sl.app Mv).el[i] = ((vn : Int), vb) := hV
          unfold sbLoop at hS
          simp only [Int.toNat_natCast] at hS
          by_cases a1 : vn < args.el.length
          · rw [List.getElem?_map, List.getElem?_eq_getElem a1] at hS
            replace hS : (if ((args.el[vn]).lev.suc vb).2 ≠ 0 then badL else if ((⟨On, Ov⟩ : Lev).max2 ((args.el[vn]).lev.suc vb).1).2 ≠ 0 then badL else sbLoop (args.el.map SLev.lev) (Mv.drop (i + 1)) ((⟨On, Ov⟩ : Lev).max2 ((args.el[vn]).lev.suc vb).1).1) = R := hS
            have c1 : ∀ m, callFn (LX (cF Go.Proofs.Try.prog)) m [] [(D.agg [.int .i64 (args.el[vn].n), slD 2 encV (args.el[vn].vs)]), .int .i64 vb] (cF Go.Proofs.Try.prog 41) = .ok (D.tup [.agg [.int .i64 (Lev.suc (args.el[vn].lev) vb).1.n, slD 2 encV (Sl.app (Lev.suc (args.el[vn].lev) vb).1.v)], .int .i64 (Lev.suc (args.el[vn].lev) vb).2]) m [] := fun m => lvSuc m [] (fun _ _ => good_nil) _ vb _ _ _ (svV _) (hz _ (List.getElem_mem a1))
            have c1' : ∀ m, n' + 4 ≤ m → callFn (LX (cF Go.Proofs.Try.prog)) m ((n' + 3, .row 2 [.agg [.int .i64 (vn : Int), .int .i64 vb]]) :: h') [(D.agg [.int .i64 (args.el[vn].n), slD 2 encV (args.el[vn].vs)]), .int .i64 vb] (cF Go.Proofs.Try.prog 41) = .ok (D.tup [.agg [.int .i64 (Lev.suc (args.el[vn].lev) vb).1.n, slD 2 encV (Sl.app (Lev.suc (args.el[vn].lev) vb).1.v)], .int .i64 (Lev.suc (args.el[vn].lev) vb).2]) m ((n' + 3, .row 2 [.agg [.int .i64 (vn : Int), .int .i64 vb]]) :: h') := fun m hm => lvSuc m _ (H1.good' hm) _ vb _ _ _ (svV _) (hz _ (List.getElem_mem a1))
            have hsz := suc_size (args.el[vn].lev) vb
            generalize Lev.suc (args.el[vn].lev) vb = A at hS c1 c1' hsz
            obtain ⟨⟨An, Av⟩, Ae⟩ := A
            replace hsz : Av.length ≤ 64 := hsz
            by_cases a2 : Ae = 0
            · subst a2
              rw [if_neg (by simp)] at hS
              have c2 : ∀ X m, n' + 4 ≤ X → X + 1 ≤ m → callFn (LX (cF Go.Proofs.Try.prog)) m ((X, (Ob.row 2 [.agg [.int .i64 (An), slD 2 encV (Sl.app Av)]])) :: (n' + 3, .row 2 [.agg [.int .i64 (vn : Int), .int .i64 vb]]) :: h') [(D.agg [.int .i64 (On), slD 2 encV (Sl.app Ov)]), (D.agg [.int .i64 (An), slD 2 encV (Sl.app Av)])] (cF Go.Proofs.Try.prog 42) = .ok (D.tup [.agg [.int .i64 (Lev.max2 ⟨On, Ov⟩ ⟨An, Av⟩).1.n, slD 2 encV (Sl.app (Lev.max2 ⟨On, Ov⟩ ⟨An, Av⟩).1.v)], .int .i64 (Lev.max2 ⟨On, Ov⟩ ⟨An, Av⟩).2]) m ((X, (Ob.row 2 [.agg [.int .i64 (An), slD 2 encV (Sl.app Av)]])) :: (n' + 3, .row 2 [.agg [.int .i64 (vn : Int), .int .i64 vb]]) :: h') := fun X m hX hm => lvMax m _ ((H1.box (r := X) (m := X + 1) hX (by omega) (flatL ⟨An, Sl.app Av⟩)).good' hm) _ _ _ _ _ _ _ _ (svA Ov) (svA Av) (by omega) (by omega)
              have hms := max_size ⟨On, Ov⟩ ⟨An, Av⟩
              replace hS : (if (Lev.max2 ⟨On, Ov⟩ ⟨An, Av⟩).2 ≠ 0 then badL else sbLoop (args.el.map SLev.lev) (Mv.drop (i + 1)) (Lev.max2 ⟨On, Ov⟩ ⟨An, Av⟩).1) = R := hS
              generalize Lev.max2 ⟨On, Ov⟩ ⟨An, Av⟩ = X2 at hS c2 hms
              obtain ⟨⟨Xn, Xv⟩, Xe⟩ := X2
              have b9' := getO_set1 (x := (Ob.row 2 [.agg [.int .i64 (Xn), slD 2 encV (Sl.app Xv)]])) b9
              have b1q : getO (setO h' q9 (Ob.row 2 [.agg [.int .i64 (Xn), slD 2 encV (Sl.app Xv)]])) (n + 1) = (Ob.row 2 [.agg [.int .i64 0, .nils]]) := getO_set2 b9 b1 (by omega)
              have HX : Hp n h n' (setO h' q9 (Ob.row 2 [.agg [.int .i64 (Xn), slD 2 encV (Sl.app Xv)]])) := H.set (by omega) (fun q _ => lowO_one (low_flat (flatL ⟨Xn, Sl.app Xv⟩)))
              unfold l47_1
              by_cases a3 : Xe = 0
              · subst a3
                rw [if_neg (by simp)] at hS
                simp (disch := first | assumption | omega | (simp (disch := first | assumption | omega) only [sB, Nat.reduceAdd, Nat.reduceLT, Nat.reduceLeDiff, Nat.reduceEqDiff, Nat.reduceMul, ↓reduceIte]; done) | fail) only [sA, ↓reduceIte, Nat.reduceLT, Nat.reduceEqDiff, Nat.reduceAdd, Nat.reduceLeDiff, g1, g4, g9, g38, g39, g40, hV, encV, encL, b9, c1, c1', c2, hK]
                exact ⟨_, _, _, _, rfl, .inl ⟨rfl, ((HX.box (r := n' + 3) (m := n' + 4) (by omega) (by omega) rfl).box (by omega) (Nat.lt_succ_self _) (flatL ⟨An, Sl.app Av⟩)).mono (by omega), by omega, getO_keep (getO_keep b1q (by omega)) (by omega), by simp (disch := first | assumption | omega | (simp (disch := first | assumption | omega) only [sB, Nat.reduceAdd, Nat.reduceLT, Nat.reduceLeDiff, Nat.reduceEqDiff, Nat.reduceMul, ↓reduceIte]; done) | fail) only [sA, ↓reduceIte, Nat.reduceLT, Nat.reduceEqDiff, Nat.reduceAdd, Nat.reduceLeDiff, g4], Xn, Xv, hS, hms, getO_keep (getO_keep b9' (by omega)) (by omega), by simp (disch := first | assumption | omega | (simp (disch := first | assumption | omega) only [sB, Nat.reduceAdd, Nat.reduceLT, Nat.reduceLeDiff, Nat.reduceEqDiff, Nat.reduceMul, ↓reduceIte]; done) | fail) only [sA, ↓reduceIte, Nat.reduceLT, Nat.reduceEqDiff, Nat.reduceAdd, Nat.reduceLeDiff, g1], by simp (disch := first | assumption | omega | (simp (disch := first | assumption | omega) only [sB, Nat.reduceAdd, Nat.reduceLT, Nat.reduceLeDiff, Nat.reduceEqDiff, Nat.reduceMul, ↓reduceIte]; done) | fail) only [sA, ↓reduceIte, Nat.reduceLT, Nat.reduceEqDiff, Nat.reduceAdd, Nat.reduceLeDiff, g9], by simp (disch := first | assumption | omega | (simp (disch := first | assumption | omega) only [sB, Nat.reduceAdd, Nat.reduceLT, Nat.reduceLeDiff, Nat.reduceEqDiff, Nat.reduceMul, ↓reduceIte]; done) | fail) only [sA, ↓reduceIte, Nat.reduceLT, Nat.reduceEqDiff, Nat.reduceAdd, Nat.reduceLeDiff, g38], by simp (disch := first | assumption | omega | (simp (disch := first | assumption | omega) only [sB, Nat.reduceAdd, Nat.reduceLT, Nat.reduceLeDiff, Nat.reduceEqDiff, Nat.reduceMul, ↓reduceIte]; done) | fail) only [sA, ↓reduceIte, Nat.reduceLT, Nat.reduceEqDiff, Nat.reduceAdd, Nat.reduceLeDiff, g39], by simp (disch := first | assumption | omega | (simp (disch := first | assumption | omega) only [sB, Nat.reduceAdd, Nat.reduceLT, Nat.reduceLeDiff, Nat.reduceEqDiff, Nat.reduceMul, ↓reduceIte]; done) | fail) only [sA, ↓reduceIte, Nat.reduceLT, Nat.reduceEqDiff, Nat.reduceAdd, Nat.reduceLeDiff]⟩⟩
              · rw [if_pos a3] at hS
                simp (disch := first | assumption | omega | (simp (disch := first | assumption | omega) only [sB, Nat.reduceAdd, Nat.reduceLT, Nat.reduceLeDiff, Nat.reduceEqDiff, Nat.reduceMul, ↓reduceIte]; done) | fail) only [sA, ↓reduceIte, Nat.reduceLT, Nat.reduceEqDiff, Nat.reduceAdd, Nat.reduceLeDiff, g1, g4, g9, g38, g39, g40, hV, encV, encL, b9, c1, c1', c2, hK, b1q]
                exact ⟨_, _, _, _, rfl, .inr ⟨by simp, (((HX.set (r := n + 1) (x := (Ob.row 2 [.agg [.int .i64 0, .nils]])) (by omega) (fun q _ => hl q)).box (r := n' + 3) (m := n' + 4) (by omega) (by omega) rfl).box (by omega) (Nat.lt_succ_self _) (flatL ⟨An, Sl.app Av⟩)).mono (by omega), by omega, getO_keep (getO_keep (getO_set1 b1q) (by omega)) (by omega), by simp (disch := first | assumption | omega | (simp (disch := first | assumption | omega) only [sB, Nat.reduceAdd, Nat.reduceLT, Nat.reduceLeDiff, Nat.reduceEqDiff, Nat.reduceMul, ↓reduceIte]; done) | fail) only [sA, ↓reduceIte, Nat.reduceLT, Nat.reduceEqDiff, Nat.reduceAdd, Nat.reduceLeDiff, g4], .inr ⟨rfl, hS.symm, by simp (disch := first | assumption | omega | (simp (disch := first | assumption | omega) only [sB, Nat.reduceAdd, Nat.reduceLT, Nat.reduceLeDiff, Nat.reduceEqDiff, Nat.reduceMul, ↓reduceIte]; done) | fail) only [sA, ↓reduceIte, Nat.reduceLT, Nat.reduceEqDiff, Nat.reduceAdd, Nat.reduceLeDiff]⟩⟩⟩
            · rw [if_pos a2] at hS
              unfold l47_1
              simp (disch := first | assumption | omega | (simp (disch := first | assumption | omega) only [sB, Nat.reduceAdd, Nat.reduceLT, Nat.reduceLeDiff, Nat.reduceEqDiff, Nat.reduceMul, ↓reduceIte]; done) | fail) only [sA, ↓reduceIte, Nat.reduceLT, Nat.reduceEqDiff, Nat.reduceAdd, Nat.reduceLeDiff, g1, g4, g9, g38, g39, g40, hV, encV, encL, b1, c1, c1', hK]
              exact ⟨_, _, _, _, rfl, .inr ⟨by simp, (HZ.box (by omega) (Nat.lt_succ_self _) (flatL ⟨An, Sl.app Av⟩)).mono (by omega), by omega, getO_keep (getO_keep (getO_set1 b1) (by omega)) (by omega), by simp (disch := first | assumption | omega | (simp (disch := first | assumption | omega) only [sB, Nat.reduceAdd, Nat.reduceLT, Nat.reduceLeDiff, Nat.reduceEqDiff, Nat.reduceMul, ↓reduceIte]; done) | fail) only [sA, ↓reduceIte, Nat.reduceLT, Nat.reduceEqDiff, Nat.reduceAdd, Nat.reduceLeDiff, g4], .inr ⟨rfl, hS.symm, by simp (disch := first | assumption | omega | (simp (disch := first | assumption | omega) only [sB, Nat.reduceAdd, Nat.reduceLT, Nat.reduceLeDiff, Nat.reduceEqDiff, Nat.reduceMul, ↓reduceIte]; done) | fail) only [sA, ↓reduceIte, Nat.reduceLT, Nat.reduceEqDiff, Nat.reduceAdd, Nat.reduceLeDiff]⟩⟩⟩
          · rw [List.getElem?_eq_none (by rw [List.length_map]; omega)] at hS
            unfold l47_1
            simp (disch := first | assumption | omega | (simp (disch := first | assumption | omega) only [sB, Nat.reduceAdd, Nat.reduceLT, Nat.reduceLeDiff, Nat.reduceEqDiff, Nat.reduceMul, ↓reduceIte]; done) | fail) only [sA, ↓reduceIte, Nat.reduceLT, Nat.reduceEqDiff, Nat.reduceAdd, Nat.reduceLeDiff, g1, g4, g9, g38, g39, g40, hV, encV, b1]
            exact ⟨_, _, _, _, rfl, .inr ⟨by simp, HZ.mono (by omega), by omega, getO_keep (getO_set1 b1) (by omega), by simp (disch := first | assumption | omega | (simp (disch := first | assumption | omega) only [sB, Nat.reduceAdd, Nat.reduceLT, Nat.reduceLeDiff, Nat.reduceEqDiff, Nat.reduceMul, ↓reduceIte]; done) | fail) only [sA, ↓reduceIte, Nat.reduceLT, Nat.reduceEqDiff, Nat.reduceAdd, Nat.reduceLeDiff, g4], .inr ⟨rfl, hS.symm, by simp (disch := first | assumption | omega | (simp (disch := first | assumption | omega) only [sB, Nat.reduceAdd, Nat.reduceLT, Nat.reduceLeDiff, Nat.reduceEqDiff, Nat.reduceMul, ↓reduceIte]; done) | fail) only [sA, ↓reduceIte, Nat.reduceLT, Nat.reduceEqDiff, Nat.reduceAdd, Nat.reduceLeDiff]⟩⟩⟩)
        ⟨(H2.box (r := q9) (m := q9 + 1) (by omega) (by omega) rfl).mono (by omega), by omega, getO_keep b1 (by omega), by simp (disch := first | assumption | omega | (simp (disch := first | assumption | omega) only [sB, Nat.reduceAdd, Nat.reduceLT, Nat.reduceLeDiff, Nat.reduceEqDiff, Nat.reduceMul, ↓reduceIte]; done) | fail) only [sA, ↓reduceIte, Nat.reduceLT, Nat.reduceEqDiff, Nat.reduceAdd, Nat.reduceLeDiff, g4], Mn, [], hR, by simp, by simp (disch := first | assumption | omega | (simp (disch := first | assumption | omega) only [sB, Nat.reduceAdd, Nat.reduceLT, Nat.reduceLeDiff, Nat.reduceEqDiff, Nat.reduceMul, ↓reduceIte]; done) | fail) only [sA, ↓reduceIte, Nat.reduceLT, Nat.reduceEqDiff, Nat.reduceAdd, Nat.reduceLeDiff]; rfl, by simp (disch := first | assumption | omega | (simp (disch := first | assumption | omega) only [sB, Nat.reduceAdd, Nat.reduceLT, Nat.reduceLeDiff, Nat.reduceEqDiff, Nat.reduceMul, ↓reduceIte]; done) | fail) only [sA, ↓reduceIte, Nat.reduceLT, Nat.reduceEqDiff, Nat.reduceAdd, Nat.reduceLeDiff, g1], by simp (disch := first | assumption | omega | (simp (disch := first | assumption | omega) only [sB, Nat.reduceAdd, Nat.reduceLT, Nat.reduceLeDiff, Nat.reduceEqDiff, Nat.reduceMul, ↓reduceIte]; done) | fail) only [sA, ↓reduceIte, Nat.reduceLT, Nat.reduceEqDiff, Nat.reduceAdd, Nat.reduceLeDiff], by simp (disch := first | assumption | omega | (simp (disch := first | assumption | omega) only [sB, Nat.reduceAdd, Nat.reduceLT, Nat.reduceLeDiff, Nat.reduceEqDiff, Nat.reduceMul, ↓reduceIte]; done) | fail) only [sA, ↓reduceIte, Nat.reduceLT, Nat.reduceEqDiff, Nat.reduceAdd, Nat.reduceLeDiff], by simp (disch := first | assumption | omega | (simp (disch := first | assumption | omega) only [sB, Nat.reduceAdd, Nat.reduceLT, Nat.reduceLeDiff, Nat.reduceEqDiff, Nat.reduceMul, ↓reduceIte]; done) | fail) only [sA, ↓reduceIte, Nat.reduceLT, Nat.reduceEqDiff, Nat.reduceAdd, Nat.reduceLeDiff], by simp (disch := first | assumption | omega | (simp (disch := first | assumption | omega) only [sB, Nat.reduceAdd, Nat.reduceLT, Nat.reduceLeDiff, Nat.reduceEqDiff, Nat.reduceMul, ↓reduceIte]; done) | fail) only [sA, ↓reduceIte, Nat.reduceLT, Nat.reduceEqDiff, Nat.reduceAdd, Nat.reduceLeDiff]⟩
      rcases q with ⟨rfl, On, Ov, hS, hO, b9, g9⟩ | ⟨rfl, rfl, g5⟩
      · have c3 : ∀ m, n3 ≤ m → callFn (LX (cF Go.Proofs.Try.prog)) m h3 [(D.agg [.int .i64 (On), slD 2 encV (Sl.app Ov)])] (cF Go.Proofs.Try.prog 73) = .ok (D.tup [.agg [.int .i64 (Lev.told ⟨On, Ov⟩).1.n, slD 2 encV (Sl.app (Lev.told ⟨On, Ov⟩).1.v)], .int .i64 (Lev.told ⟨On, Ov⟩).2]) m h3 := fun m hm => lvTold m h3 (H3.good' hm) On _ Ov _ (svA Ov) (by omega)
        rw [hS] at c3
        obtain ⟨⟨Rn, Rv⟩, Re⟩ := R
        have F4 := fun m hm => finish_flat (flatR (⟨Rn, Rv⟩, Re)) ((H3.set (r := n + 1) (x := (Ob.row 2 [.agg [.int .i64 (Rn), slD 2 encV (Sl.app Rv)]])) (by omega) (fun q _ => lowO_one (low_flat (flatL ⟨Rn, Sl.app Rv⟩)))).mono (m := m) hm)
        have b4 : getO (setO h3 (n + 1) (Ob.row 2 [.agg [.int .i64 (Rn), slD 2 encV (Sl.app Rv)]])) (n + 1) = (Ob.row 2 [.agg [.int .i64 (Rn), slD 2 encV (Sl.app Rv)]]) := getO_set1 b1
        simp (disch := first | assumption | omega | (simp (disch := first | assumption | omega) only [sB, Nat.reduceAdd, Nat.reduceLT, Nat.reduceLeDiff, Nat.reduceEqDiff, Nat.reduceMul, ↓reduceIte]; done) | fail) only [sA, ↓reduceIte, Nat.reduceLT, Nat.reduceEqDiff, Nat.reduceAdd, Nat.reduceLeDiff, g4, g9, b1, b9, b4, c3, F4]
      · have F4 := fun m hm => finish_flat (flatR badL) (H3.mono (m := m) hm)
        have hbad : (D.tup [.agg [.int .i64 (badL).1.n, slD 2 encV (Sl.app (badL).1.v)], .int .i64 (badL).2]) = .tup [.agg [.int .i64 0, .nils], .int .i64 13] := rfl
        rw [hbad] at F4 ⊢
        simp (disch := first | assumption | omega | (simp (disch := first | assumption | omega) only [sB, Nat.reduceAdd, Nat.reduceLT, Nat.reduceLeDiff, Nat.reduceEqDiff, Nat.reduceMul, ↓reduceIte]; done) | fail) only [sA, ↓reduceIte, Nat.reduceLT, Nat.reduceEqDiff, Nat.reduceAdd, Nat.reduceLeDiff, g4, g5, b1, F4]
    · rw [if_neg (by rw [hall]; decide)] at hR
      subst hR
      have F4 := fun m hm => finish_flat (flatR badL) (H2.mono (m := m) hm)
      have hbad : (D.tup [.agg [.int .i64 (badL).1.n, slD 2 encV (Sl.app (badL).1.v)], .int .i64 (badL).2]) = .tup [.agg [.int .i64 0, .nils], .int .i64 13] := rfl
      rw [hbad] at F4 ⊢
      simp (disch := first | assumption | omega | (simp (disch := first | assumption | omega) only [sB, Nat.reduceAdd, Nat.reduceLT, Nat.reduceLeDiff, Nat.reduceEqDiff, Nat.reduceMul, ↓reduceIte]; done) | fail) only [sA, ↓reduceIte, Nat.reduceLT, Nat.reduceEqDiff, Nat.reduceAdd, Nat.reduceLeDiff, g4, g5, b1, F4]
  · rw [if_neg hb]
    rw [nrm_wrong hb] at c0
    have hbad : (D.tup [.agg [.int .i64 (badL).1.n, slD 2 encV (Sl.app (badL).1.v)], .int .i64 (badL).2]) = .tup [.agg [.int .i64 0, .nils], .int .i64 13] := rfl
    rw [hbad]
    rw [f47_eq]; unfold c47; rw [callFn_eq (by rfl)]
    simp (disch := first | assumption | omega | (simp (disch := first | assumption | omega) only [sB, Nat.reduceAdd, Nat.reduceLT, Nat.reduceLeDiff, Nat.reduceEqDiff, Nat.reduceMul, ↓reduceIte]; done) | fail) only [sA, ↓reduceIte, Nat.reduceLT, Nat.reduceEqDiff, Nat.reduceAdd, Nat.reduceLeDiff, c0, s3, slD_nil]
end Go.Proofs.Ytjagmfgjlfkmgaa
