/- Small functions of the law. No condition. -/
import Derived.Test.YtjagmfgjlfkmgaaKLC
set_option linter.unusedSimpArgs false
set_option linter.unusedVariables false
namespace Go.Proofs.Ytjagmfgjlfkmgaa
open Go

section
variable (n : Nat) (h : Hps) (hg : ∀ k,n ≤ k → GoodAt k h)
include hg
theorem lawNum (a : Int) : callFn (LX (cFk kN Try.prog)) n h [.int .i64 a] (cFk kN Try.prog 39) = .ok (.int .i64 a) n h := by
  have hgn := hg n (Nat.le_refl _)
  rw [f39_eq]; unfold c39; rw [callFn_eq (by rfl)]
  simp (disch:=first|assumption|omega|(simp (disch:=first|assumption|omega) only [sB,Nat.reduceAdd,Nat.reduceLT,Nat.reduceLeDiff,Nat.reduceEqDiff,Nat.reduceMul,↓reduceIte];done)|fail) only [sA,↓reduceIte,Nat.reduceLT,Nat.reduceEqDiff,Nat.reduceAdd,Nat.reduceLeDiff]
theorem lawV (a b : Int) : callFn (LX (cFk kN Try.prog)) n h [.int .i64 a,.int .i64 b] (cFk kN Try.prog 32) = .ok (.agg [.int .i64 0,.sl 2 [.agg [.int .i64 a,.int .i64 b]] [] true]) n h := by
  have hgn := hg n (Nat.le_refl _)
  rw [f32_eq]; unfold c32; rw [callFn_eq (by rfl)]
  simp (disch:=first|assumption|omega|(simp (disch:=first|assumption|omega) only [sB,Nat.reduceAdd,Nat.reduceLT,Nat.reduceLeDiff,Nat.reduceEqDiff,Nat.reduceMul,↓reduceIte];done)|fail) only [sA,↓reduceIte,Nat.reduceLT,Nat.reduceEqDiff,Nat.reduceAdd,Nat.reduceLeDiff]
theorem lawBig (N : Int) (d : D) (l : List LV) (ad : Nat → D) (S : Sv 2 encV n h d l ad) : callFn (LX (cFk kN Try.prog)) n h [(D.agg [.int .i64 (N),d])] (cFk kN Try.prog 34) = .ok (.bool (decide (200 < l.length))) n h := by
  have hgn := hg n (Nat.le_refl _)
  have s1 := S.len
  have s3 := S.okD
  have H0 : Hp n h (n + 1) ((n,(Ob.row 2 [.agg [.int .i64 (N),d]])) :: h) := (Hp.start hg).cons (Nat.le_refl _) (by omega) (fun k hk => S.box2 (by omega))
  rw [f34_eq]; unfold c34; rw [callFn_eq (by rfl)]
  by_cases hb : 200 < l.length
  · rw [decide_eq_true hb]
    simp (disch:=first|assumption|omega|(simp (disch:=first|assumption|omega) only [sB,Nat.reduceAdd,Nat.reduceLT,Nat.reduceLeDiff,Nat.reduceEqDiff,Nat.reduceMul,↓reduceIte];done)|fail) only [sA,↓reduceIte,Nat.reduceLT,Nat.reduceEqDiff,Nat.reduceAdd,Nat.reduceLeDiff,s1,s3]
  · rw [decide_eq_false hb]
    simp (disch:=first|assumption|omega|(simp (disch:=first|assumption|omega) only [sB,Nat.reduceAdd,Nat.reduceLT,Nat.reduceLeDiff,Nat.reduceEqDiff,Nat.reduceMul,↓reduceIte];done)|fail) only [sA,↓reduceIte,Nat.reduceLT,Nat.reduceEqDiff,Nat.reduceAdd,Nat.reduceLeDiff,s1,s3]
end
end Go.Proofs.Ytjagmfgjlfkmgaa
