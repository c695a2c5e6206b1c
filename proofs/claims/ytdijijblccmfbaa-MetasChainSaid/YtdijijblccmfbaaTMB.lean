/- The program's ways to lift a term, to put one in for a variable, and to copy: the functions that its map asks. No condition but sizes. -/
import Derived.Test.YtdijijblccmfbaaTMA
set_option linter.unusedSimpArgs false
set_option linter.unusedVariables false
namespace Go.Proofs.Ytdijijblccmfbaa
open Go

def varT (n : Int) : Tm := .mk 1 n false [] (Sl.app []) true false [] []
def gC : Does := fun _ _ _ => none
def gL (a b : Int) : Does := fun t d L => if t.form = 1 ∧ a + d ≤ t.n then some (varT (t.n + b),L) else none
def gS (p : Int) (s : Tm) : Does := fun t d L => if t.form ≠ 1 ∨ t.n < p + d then none else if p + d < t.n then some (varT (t.n - 1),L) else some (runM (gL 0 d) s 0 L)
theorem steadyC : Steady gC 0 := ⟨by omega,fun t d L x h => by cases h⟩
section
variable (n : Nat) (h : Hps) (hg : Gd n h)
include hg
theorem dC (t : Tm) (d : Int) : callFn (LX (cF Try.prog)) n h [(D.agg [.int .i64 (t).form,.int .i64 (t).n,.bool (t).hid,.str (t).name,slD 2 encL (t).levels,slD 6 encT (t).kids]),.int .i64 d] (cF Try.prog 93) = .ok (.tup [(D.agg [.int .i64 0,.int .i64 0,.bool false,.str [],.nils,.nils]),.bool false]) n h := by
  have hgn := hg n (Nat.le_refl _)
  rw [f93_eq]; unfold c93; rw [callFn_eq (by rfl)]
  simp (disch:=first|assumption|omega|(simp (disch:=first|assumption|omega) only [sB,Nat.reduceAdd,Nat.reduceLT,Nat.reduceLeDiff,Nat.reduceEqDiff,Nat.reduceMul,↓reduceIte];done)|fail) only [sA,↓reduceIte,Nat.reduceLT,Nat.reduceEqDiff,Nat.reduceAdd,Nat.reduceLeDiff]
end
theorem doesC {r : Nat} : DoesOk (.fn 93 [] []) r gC 0 := fun t _ d L _ _ _ _ n h hg _ _ => ⟨fun _ => by rw [callX_fn]; exact dC n h hg t d,fun x hx => (by cases hx)⟩
end Go.Proofs.Ytdijijblccmfbaa
