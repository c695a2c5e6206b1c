/- Merged: LF LG. -/
import Derived.Test.YtjagmfgjlfkmgaaLE

/- The statements' examples: they hold. No condition. -/
set_option linter.unusedSimpArgs false
set_option linter.unusedVariables false
namespace Go.Proofs.Ytjagmfgjlfkmgaa
open Go

abbrev one1 (p : LV) : Sl LV := ⟨false, true, [p], []⟩
theorem lawAlive (n : Nat) (h : Hps) (hg : ∀ k, n ≤ k → GoodAt k h) : callFn (LX (cF Go.Proofs.Try.prog)) n h [] (cF Go.Proofs.Try.prog 33) = .ok (.bool true) n h := by
  have hgn := hg n (Nat.le_refl _)
  have G1 : ∀ X m, n ≤ X → X + 1 ≤ m → ∀ k, m ≤ k → GoodAt k ((X, (Ob.row 2 [.agg [.int .i64 (0), slD 2 encV (Sl.app [((0 : Int), (2 : Int))])]])) :: h) := fun X m hX hm => ((Hp.start hg).cons hX (by omega) (fun q _ => lowO_one (low_flat (flatL ⟨0, Sl.app [(0, 2)]⟩)))).good' hm
  have G2 : ∀ X Y m, n ≤ X → X + 1 ≤ Y → Y + 1 ≤ m → ∀ k, m ≤ k → GoodAt k ((Y, (Ob.row 2 [.agg [.int .i64 (3), slD 2 encV (Sl.app [((1 : Int), (1 : Int))])]])) :: (X, (Ob.row 2 [.agg [.int .i64 (0), slD 2 encV (Sl.app [((0 : Int), (2 : Int))])]])) :: h) := fun X Y m hX hY hm => (((Hp.start hg).cons hX (Nat.lt_succ_self _) (fun q _ => lowO_one (low_flat (flatL ⟨0, Sl.app [(0, 2)]⟩)))).cons hY (Nat.lt_succ_self _) (fun q _ => lowO_one (low_flat (flatL ⟨3, Sl.app [(1, 1)]⟩)))).good' hm
  have e1 : Lev.nrm ⟨1, [(0, 2)]⟩ = (⟨0, [(0, 2)]⟩, 0) := rfl
  have e2 : Lev.subst ⟨0, [(0, 1)]⟩ [⟨2, [(1, 0)]⟩] = (⟨3, [(1, 1)]⟩, 0) := rfl
  have e3 : Lev.leq ⟨0, [(0, 0)]⟩ ⟨0, [(0, 1)]⟩ = true := rfl
  have e4 : Lev.leq ⟨0, [(0, 1)]⟩ ⟨3, [(0, 0)]⟩ = false := rfl
  have c1 : ∀ m, n ≤ m → callFn (LX (cF Go.Proofs.Try.prog)) m h [(D.agg [.int .i64 (1), .sl 2 [.agg [.int .i64 0, .int .i64 2]] [] true])] (cF Go.Proofs.Try.prog 36) = .ok (.tup [(D.agg [.int .i64 (0), slD 2 encV (Sl.app [((0 : Int), (2 : Int))])]), .int .i64 0]) m h := fun m hm => by
    have := lvNorm m h (good_of hg hm) 1 _ _ _ (svV (one1 (0, 2))) (by decide)
    rw [e1] at this; exact this
  have vA : ∀ X m a b, n ≤ X → X + 1 ≤ m → callFn (LX (cF Go.Proofs.Try.prog)) m ((X, (Ob.row 2 [.agg [.int .i64 (0), slD 2 encV (Sl.app [((0 : Int), (2 : Int))])]])) :: h) [.int .i64 a, .int .i64 b] (cF Go.Proofs.Try.prog 32) = .ok (.agg [.int .i64 0, .sl 2 [.agg [.int .i64 a, .int .i64 b]] [] true]) m ((X, (Ob.row 2 [.agg [.int .i64 (0), slD 2 encV (Sl.app [((0 : Int), (2 : Int))])]])) :: h) := fun X m a b hX hm => lawV m _ (G1 X m hX hm) a b
  have vB : ∀ X Y m a b, n ≤ X → X + 1 ≤ Y → Y + 1 ≤ m → callFn (LX (cF Go.Proofs.Try.prog)) m ((Y, (Ob.row 2 [.agg [.int .i64 (3), slD 2 encV (Sl.app [((1 : Int), (1 : Int))])]])) :: (X, (Ob.row 2 [.agg [.int .i64 (0), slD 2 encV (Sl.app [((0 : Int), (2 : Int))])]])) :: h) [.int .i64 a, .int .i64 b] (cF Go.Proofs.Try.prog 32) = .ok (.agg [.int .i64 0, .sl 2 [.agg [.int .i64 a, .int .i64 b]] [] true]) m ((Y, (Ob.row 2 [.agg [.int .i64 (3), slD 2 encV (Sl.app [((1 : Int), (1 : Int))])]])) :: (X, (Ob.row 2 [.agg [.int .i64 (0), slD 2 encV (Sl.app [((0 : Int), (2 : Int))])]])) :: h) := fun X Y m a b hX hY hm => lawV m _ (G2 X Y m hX hY hm) a b
  have vC : ∀ m a b, callFn (LX (cF Go.Proofs.Try.prog)) m [] [.int .i64 a, .int .i64 b] (cF Go.Proofs.Try.prog 32) = .ok (.agg [.int .i64 0, .sl 2 [.agg [.int .i64 a, .int .i64 b]] [] true]) m [] := fun m a b => lawV m [] (fun _ _ => good_nil) a b
  have c2 : ∀ X m, n ≤ X → X + 1 ≤ m → callFn (LX (cF Go.Proofs.Try.prog)) m ((X, (Ob.row 2 [.agg [.int .i64 (0), slD 2 encV (Sl.app [((0 : Int), (2 : Int))])]])) :: h) [(D.agg [.int .i64 (0), .sl 2 [.agg [.int .i64 0, .int .i64 1]] [] true]), .sl 2 [.agg [.int .i64 2, .sl 2 [.agg [.int .i64 1, .int .i64 0]] [] true]] [] true] (cF Go.Proofs.Try.prog 47) =
      .ok (.tup [(D.agg [.int .i64 (3), slD 2 encV (Sl.app [((1 : Int), (1 : Int))])]), .int .i64 0]) m ((X, (Ob.row 2 [.agg [.int .i64 (0), slD 2 encV (Sl.app [((0 : Int), (2 : Int))])]])) :: h) := fun X m hX hm => by
    have := lvSubst m _ (G1 X m hX hm) 0 _ _ _ (svV (one1 (0, 1))) (by decide) ⟨false, true, [⟨2, one1 (1, 0)⟩], []⟩ (by decide) (fun a ha => by rw [List.mem_singleton.1 ha]; show 1 < _; decide)
    replace this : _ = Rd.ok (D.tup [.agg [.int .i64 (Lev.subst ⟨0, [(0, 1)]⟩ [⟨2, [(1, 0)]⟩]).1.n, slD 2 encV (Sl.app (Lev.subst ⟨0, [(0, 1)]⟩ [⟨2, [(1, 0)]⟩]).1.v)], .int .i64 (Lev.subst ⟨0, [(0, 1)]⟩ [⟨2, [(1, 0)]⟩]).2]) m _ := this
    rw [e2] at this; exact this
  have c3 : ∀ X Y m, n ≤ X → X + 1 ≤ Y → Y + 1 ≤ m → callFn (LX (cF Go.Proofs.Try.prog)) m ((Y, (Ob.row 2 [.agg [.int .i64 (3), slD 2 encV (Sl.app [((1 : Int), (1 : Int))])]])) :: (X, (Ob.row 2 [.agg [.int .i64 (0), slD 2 encV (Sl.app [((0 : Int), (2 : Int))])]])) :: h) [(D.agg [.int .i64 (0), .sl 2 [.agg [.int .i64 0, .int .i64 0]] [] true]), (D.agg [.int .i64 (0), .sl 2 [.agg [.int .i64 0, .int .i64 1]] [] true])] (cF Go.Proofs.Try.prog 45) = .ok (.bool true) m ((Y, (Ob.row 2 [.agg [.int .i64 (3), slD 2 encV (Sl.app [((1 : Int), (1 : Int))])]])) :: (X, (Ob.row 2 [.agg [.int .i64 (0), slD 2 encV (Sl.app [((0 : Int), (2 : Int))])]])) :: h) := fun X Y m hX hY hm => by
    have := lvLeq m _ (G2 X Y m hX hY hm) 0 0 _ _ _ _ _ _ (svV (one1 (0, 0))) (svV (one1 (0, 1))) (by decide) (by decide)
    rw [e3] at this; exact this
  have c4 : ∀ X Y m, n ≤ X → X + 1 ≤ Y → Y + 1 ≤ m → callFn (LX (cF Go.Proofs.Try.prog)) m ((Y, (Ob.row 2 [.agg [.int .i64 (3), slD 2 encV (Sl.app [((1 : Int), (1 : Int))])]])) :: (X, (Ob.row 2 [.agg [.int .i64 (0), slD 2 encV (Sl.app [((0 : Int), (2 : Int))])]])) :: h) [(D.agg [.int .i64 (0), .sl 2 [.agg [.int .i64 0, .int .i64 1]] [] true]), (D.agg [.int .i64 (3), .sl 2 [.agg [.int .i64 0, .int .i64 0]] [] true])] (cF Go.Proofs.Try.prog 45) = .ok (.bool false) m ((Y, (Ob.row 2 [.agg [.int .i64 (3), slD 2 encV (Sl.app [((1 : Int), (1 : Int))])]])) :: (X, (Ob.row 2 [.agg [.int .i64 (0), slD 2 encV (Sl.app [((0 : Int), (2 : Int))])]])) :: h) := fun X Y m hX hY hm => by
    have := lvLeq m _ (G2 X Y m hX hY hm) 0 3 _ _ _ _ _ _ (svV (one1 (0, 1))) (svV (one1 (0, 0))) (by decide) (by decide)
    rw [e4] at this; exact this
  have nA : ∀ X Y m a, n ≤ X → X + 1 ≤ Y → Y + 1 ≤ m → callFn (LX (cF Go.Proofs.Try.prog)) m ((Y, (Ob.row 2 [.agg [.int .i64 (3), slD 2 encV (Sl.app [((1 : Int), (1 : Int))])]])) :: (X, (Ob.row 2 [.agg [.int .i64 (0), slD 2 encV (Sl.app [((0 : Int), (2 : Int))])]])) :: h) [.int .i64 a] (cF Go.Proofs.Try.prog 39) = .ok (.int .i64 a) m ((Y, (Ob.row 2 [.agg [.int .i64 (3), slD 2 encV (Sl.app [((1 : Int), (1 : Int))])]])) :: (X, (Ob.row 2 [.agg [.int .i64 (0), slD 2 encV (Sl.app [((0 : Int), (2 : Int))])]])) :: h) := fun X Y m a hX hY hm => lawNum m _ (G2 X Y m hX hY hm) a
  have nC : ∀ m a, callFn (LX (cF Go.Proofs.Try.prog)) m [] [.int .i64 a] (cF Go.Proofs.Try.prog 39) = .ok (.int .i64 a) m [] := fun m a => lawNum m [] (fun _ _ => good_nil) a
  have x1 : ∀ X Y m, n ≤ X → X + 1 ≤ Y → Y + 1 ≤ m → callFn (LX (cF Go.Proofs.Try.prog)) m ((Y, (Ob.row 2 [.agg [.int .i64 (3), slD 2 encV (Sl.app [((1 : Int), (1 : Int))])]])) :: (X, (Ob.row 2 [.agg [.int .i64 (0), slD 2 encV (Sl.app [((0 : Int), (2 : Int))])]])) :: h) [(D.agg [.int .i64 (0), slD 2 encV (Sl.app [((0 : Int), (2 : Int))])]), (D.agg [.int .i64 (0), .sl 2 [.agg [.int .i64 0, .int .i64 2]] [] true])] (cF Go.Proofs.Try.prog 40) = .ok (.bool true) m ((Y, (Ob.row 2 [.agg [.int .i64 (3), slD 2 encV (Sl.app [((1 : Int), (1 : Int))])]])) :: (X, (Ob.row 2 [.agg [.int .i64 (0), slD 2 encV (Sl.app [((0 : Int), (2 : Int))])]])) :: h) := fun X Y m hX hY hm =>
    lawExact m _ (G2 X Y m hX hY hm) 0 0 _ _ _ _ _ _ (svA [(0, 2)]) (svV (one1 (0, 2))) (by decide) (by decide)
  have x1c : ∀ m, callFn (LX (cF Go.Proofs.Try.prog)) m [] [(D.agg [.int .i64 (0), slD 2 encV (Sl.app [((0 : Int), (2 : Int))])]), (D.agg [.int .i64 (0), .sl 2 [.agg [.int .i64 0, .int .i64 2]] [] true])] (cF Go.Proofs.Try.prog 40) = .ok (.bool true) m [] := fun m =>
    lawExact m _ (fun _ _ => good_nil) 0 0 _ _ _ _ _ _ (svA [(0, 2)]) (svV (one1 (0, 2))) (by decide) (by decide)
  have x2 : ∀ X Y m, n ≤ X → X + 1 ≤ Y → Y + 1 ≤ m → callFn (LX (cF Go.Proofs.Try.prog)) m ((Y, (Ob.row 2 [.agg [.int .i64 (3), slD 2 encV (Sl.app [((1 : Int), (1 : Int))])]])) :: (X, (Ob.row 2 [.agg [.int .i64 (0), slD 2 encV (Sl.app [((0 : Int), (2 : Int))])]])) :: h) [(D.agg [.int .i64 (3), slD 2 encV (Sl.app [((1 : Int), (1 : Int))])]), (D.agg [.int .i64 (3), .sl 2 [.agg [.int .i64 1, .int .i64 1]] [] true])] (cF Go.Proofs.Try.prog 40) = .ok (.bool true) m ((Y, (Ob.row 2 [.agg [.int .i64 (3), slD 2 encV (Sl.app [((1 : Int), (1 : Int))])]])) :: (X, (Ob.row 2 [.agg [.int .i64 (0), slD 2 encV (Sl.app [((0 : Int), (2 : Int))])]])) :: h) := fun X Y m hX hY hm =>
    lawExact m _ (G2 X Y m hX hY hm) 3 3 _ _ _ _ _ _ (svA [(1, 1)]) (svV (one1 (1, 1))) (by decide) (by decide)
  have x2c : ∀ m, callFn (LX (cF Go.Proofs.Try.prog)) m [] [(D.agg [.int .i64 (3), slD 2 encV (Sl.app [((1 : Int), (1 : Int))])]), (D.agg [.int .i64 (3), .sl 2 [.agg [.int .i64 1, .int .i64 1]] [] true])] (cF Go.Proofs.Try.prog 40) = .ok (.bool true) m [] := fun m =>
    lawExact m _ (fun _ _ => good_nil) 3 3 _ _ _ _ _ _ (svA [(1, 1)]) (svV (one1 (1, 1))) (by decide) (by decide)
  have hK : ∀ X Y m, n ≤ X → X + 1 ≤ Y → Y + 1 ≤ m → keysFrom m ((Y, (Ob.row 2 [.agg [.int .i64 (3), slD 2 encV (Sl.app [((1 : Int), (1 : Int))])]])) :: (X, (Ob.row 2 [.agg [.int .i64 (0), slD 2 encV (Sl.app [((0 : Int), (2 : Int))])]])) :: h) = [] := fun X Y m hX hY hm => keys_low (G2 X Y m hX hY hm m (Nat.le_refl _))
  rw [f33_eq]; unfold c33; rw [callFn_eq (by rfl)]
  simp (disch := first | assumption | omega | (simp (disch := first | assumption | omega) only [sB, Nat.reduceAdd, Nat.reduceLT, Nat.reduceLeDiff, Nat.reduceEqDiff, Nat.reduceMul, ↓reduceIte]; done) | fail) only [sA, ↓reduceIte, Nat.reduceLT, Nat.reduceEqDiff, Nat.reduceAdd, Nat.reduceLeDiff, c1, c2, c3, c4, vA, vB, vC, nA, nC, x1, x1c, x2, x2c, hK]
end Go.Proofs.Ytjagmfgjlfkmgaa

/- The contracts in the heaps of the statements: boxes of data alone; levels that are handed in. No condition. -/
namespace Go.Proofs.Ytjagmfgjlfkmgaa
open Go

/-- boxes below number m, each with data -/
def GF (m : Nat) : Hps → Prop
  | [] => True
  | p :: t => p.1 < m ∧ (match p.2 with | .row _ [d] => flat d = true | _ => False) ∧ GF m t
theorem gf_nil {m : Nat} : GF m [] = True := eqOf rfl
theorem gf_cons {m r k : Nat} {d : D} {t : Hps} : GF m ((r, .row k [d]) :: t) = (r < m ∧ flat d = true ∧ GF m t) := eqOf rfl
theorem gf_lev {m r k : Nat} {N : Int} {s : Sl LV} {t : Hps} : GF m ((r, .row k [(D.agg [.int .i64 (N), slD 2 encV (s)])]) :: t) = (r < m ∧ GF m t) := by
  rw [gf_cons, show flat (D.agg [.int .i64 (N), slD 2 encV (s)]) = true from flatL ⟨N, s⟩]
  simp only [true_and]
theorem gf_zero {m r k : Nat} {t : Hps} : GF m ((r, .row k [.agg [.int .i64 0, .nils]]) :: t) = (r < m ∧ GF m t) := by
  rw [gf_cons, show flat (.agg [.int .i64 0, .nils]) = true from rfl]
  simp only [true_and]
theorem GF.good {m : Nat} : ∀ {h : Hps}, GF m h → ∀ k, m ≤ k → GoodAt k h
  | [], _, _, _ => good_nil
  | (r, o) :: t, hg, k, hk => by
    obtain ⟨h1, h2, h3⟩ := hg
    have h2' : lowO k o := by
      cases o with
      | row q es =>
        match es, h2 with
        | [d], h2 => exact lowO_one (low_flat h2)
      | _ => cases h2
    have h1' : r < m := h1
    exact good_cons.2 ⟨by omega, h2', GF.good h3 k hk⟩

theorem keys_gf {m : Nat} {h : Hps} (hg : GF m h) : keysFrom m h = [] := keys_low (hg.good m (Nat.le_refl _))
theorem kAlive {m : Nat} {h : Hps} (hg : GF m h) : callFn (LX (cF Go.Proofs.Try.prog)) m h [] (cF Go.Proofs.Try.prog 33) = .ok (.bool true) m h := lawAlive m h hg.good
theorem kNum {m : Nat} {h : Hps} {a : Int} (hg : GF m h) : callFn (LX (cF Go.Proofs.Try.prog)) m h [.int .i64 a] (cF Go.Proofs.Try.prog 39) = .ok (.int .i64 a) m h := lawNum m h hg.good a
theorem kV {m : Nat} {h : Hps} {a b : Int} (hg : GF m h) : callFn (LX (cF Go.Proofs.Try.prog)) m h [.int .i64 a, .int .i64 b] (cF Go.Proofs.Try.prog 32) = .ok (.agg [.int .i64 0, slD 2 encV (one1 (a, b))]) m h := lawV m h hg.good a b
theorem kBig {m : Nat} {h : Hps} {N : Int} {s : Sl LV} (hg : GF m h) : callFn (LX (cF Go.Proofs.Try.prog)) m h [(D.agg [.int .i64 (N), slD 2 encV (s)])] (cF Go.Proofs.Try.prog 34) = .ok (.bool (decide (200 < s.el.length))) m h := lawBig m h hg.good N _ _ _ (svV s)
theorem kSuc {m : Nat} {h : Hps} {N k : Int} {s : Sl LV} (hs : s.el.length ≤ 200) (hg : GF m h) : callFn (LX (cF Go.Proofs.Try.prog)) m h [(D.agg [.int .i64 (N), slD 2 encV (s)]), .int .i64 k] (cF Go.Proofs.Try.prog 41) = .ok (D.tup [.agg [.int .i64 (Lev.suc ⟨N, s.el⟩ k).1.n, slD 2 encV (Sl.app (Lev.suc ⟨N, s.el⟩ k).1.v)], .int .i64 (Lev.suc ⟨N, s.el⟩ k).2]) m h := lvSuc m h hg.good N k _ _ _ (svV s) (by omega)
theorem kRSuc {m : Nat} {h : Hps} {N k : Int} {s : Sl LV} (hs : s.el.length ≤ 200) (hg : GF m h) : callFn (LX (cF Go.Proofs.Try.prog)) m h [(D.agg [.int .i64 (N), slD 2 encV (s)]), .int .i64 k] (cF Go.Proofs.Try.prog 43) = .ok (D.tup [.agg [.int .i64 (Lev.suc ⟨N, s.el⟩ k).1.n, slD 2 encV (Sl.app (Lev.suc ⟨N, s.el⟩ k).1.v)], .int .i64 (Lev.suc ⟨N, s.el⟩ k).2]) m h := refSuc m h hg.good N k _ _ _ (svV s) (by omega)
theorem kMax {m : Nat} {h : Hps} {N N' : Int} {s s' : Sl LV} (hs : s.el.length ≤ 200) (hs' : s'.el.length ≤ 200) (hg : GF m h) : callFn (LX (cF Go.Proofs.Try.prog)) m h [(D.agg [.int .i64 (N), slD 2 encV (s)]), (D.agg [.int .i64 (N'), slD 2 encV (s')])] (cF Go.Proofs.Try.prog 42) = .ok (D.tup [.agg [.int .i64 (Lev.max2 ⟨N, s.el⟩ ⟨N', s'.el⟩).1.n, slD 2 encV (Sl.app (Lev.max2 ⟨N, s.el⟩ ⟨N', s'.el⟩).1.v)], .int .i64 (Lev.max2 ⟨N, s.el⟩ ⟨N', s'.el⟩).2]) m h := lvMax m h hg.good N N' _ _ _ _ _ _ (svV s) (svV s') (by omega) (by omega)
theorem kRMax {m : Nat} {h : Hps} {N N' : Int} {s s' : Sl LV} (hs : s.el.length ≤ 200) (hs' : s'.el.length ≤ 200) (hg : GF m h) : callFn (LX (cF Go.Proofs.Try.prog)) m h [(D.agg [.int .i64 (N), slD 2 encV (s)]), (D.agg [.int .i64 (N'), slD 2 encV (s')])] (cF Go.Proofs.Try.prog 44) = .ok (D.tup [.agg [.int .i64 (Lev.max2 ⟨N, s.el⟩ ⟨N', s'.el⟩).1.n, slD 2 encV (Sl.app (Lev.max2 ⟨N, s.el⟩ ⟨N', s'.el⟩).1.v)], .int .i64 (Lev.max2 ⟨N, s.el⟩ ⟨N', s'.el⟩).2]) m h := refMax m h hg.good N N' _ _ _ _ _ _ (svV s) (svV s') (by omega) (by omega)
theorem kLeq {m : Nat} {h : Hps} {N N' : Int} {s s' : Sl LV} (hs : s.el.length ≤ 200) (hs' : s'.el.length ≤ 200) (hg : GF m h) : callFn (LX (cF Go.Proofs.Try.prog)) m h [(D.agg [.int .i64 (N), slD 2 encV (s)]), (D.agg [.int .i64 (N'), slD 2 encV (s')])] (cF Go.Proofs.Try.prog 45) = .ok (.bool (Lev.leq ⟨N, s.el⟩ ⟨N', s'.el⟩)) m h := lvLeq m h hg.good N N' _ _ _ _ _ _ (svV s) (svV s') (by omega) (by omega)
theorem kExact {m : Nat} {h : Hps} {N N' : Int} {s s' : Sl LV} (hs : s.el.length ≤ 200) (hs' : s'.el.length ≤ 200) (hg : GF m h) : callFn (LX (cF Go.Proofs.Try.prog)) m h [(D.agg [.int .i64 (N), slD 2 encV (s)]), (D.agg [.int .i64 (N'), slD 2 encV (s')])] (cF Go.Proofs.Try.prog 40) = .ok (.bool (decide (N = N' ∧ s.el = s'.el))) m h := lawExact m h hg.good N N' _ _ _ _ _ _ (svV s) (svV s') (by omega) (by omega)
theorem sz_app {v : List LV} (h : v.length ≤ 200) : (Sl.app v).el.length ≤ 200 := h

/-- a level that is handed in -/
theorem lvar_arg {H : Type} (f : Nat) (x : DataW H) (h : Fit Go.Proofs.Try.prog f 62 x) : ∃ p : LV, dVal Go.Proofs.Try.prog f 62 x = encV p ∧ True := by
  obtain ⟨g, a, b, rfl, rfl, h1, h2, h4⟩ := struct2 Go.Proofs.Try.underlying62 h
  obtain ⟨i, e1, _⟩ := int_arg Go.Proofs.Try.underlying3 h1
  obtain ⟨j, e2, _⟩ := int_arg Go.Proofs.Try.underlying3 h2
  refine ⟨(i, j), ?_, trivial⟩
  rw [h4]
  show D.agg (cells (dVal _ g 3 a) ++ cells (dVal _ g 3 b)) = _
  rw [e1, e2]
  rfl
theorem lev_arg {H : Type} (f : Nat) (x : DataW H) (h : Fit Go.Proofs.Try.prog f 43 x) : ∃ l : SLev, dVal Go.Proofs.Try.prog f 43 x = encL l := by
  obtain ⟨g, a, b, rfl, rfl, h1, h2, h4⟩ := struct2 Go.Proofs.Try.underlying43 h
  obtain ⟨i, e1, _⟩ := int_arg Go.Proofs.Try.underlying3 h1
  obtain ⟨s, e2, _, _⟩ := slice_arg (k := 2) (enc := encV) (R := fun _ _ => True) Go.Proofs.Try.underlying41 (by kernel_rfl) h2 (fun g' y _ hy => lvar_arg g' y hy)
  refine ⟨⟨i, s⟩, ?_⟩
  rw [h4]
  show D.agg (cells (dVal _ g 3 a) ++ cells (dVal _ g 41 b)) = _
  rw [e1, e2, cells_int, cells_slD]
  rfl
end Go.Proofs.Ytjagmfgjlfkmgaa
