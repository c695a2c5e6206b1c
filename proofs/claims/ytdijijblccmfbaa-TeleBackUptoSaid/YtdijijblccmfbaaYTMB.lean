/- The program's ways to lift a term, to put one in for a variable, and to copy: the functions that its map asks. No condition but sizes. -/
import Derived.Test.YtdijijblccmfbaaYTMA
set_option linter.unusedSimpArgs false
set_option linter.unusedVariables false
namespace Go.Proofs.Ytdijijblccmfbaa
open Go

def varT (n : Int) : Tm := .mk 1 n false [] (Sl.app []) true false [] []
theorem enc_var (n : Int) : encT (varT n) = .agg [.int .i64 1,.int .i64 n,.bool false,.str [],.nils,.nils] := by rw [encT_eq]; rfl
def gC : Does := fun _ _ _ => none
def gL (a b : Int) : Does := fun t d L => if t.form = 1 ∧ a + d ≤ t.n then some (varT (t.n + b),L) else none
def gS (p : Int) (s : Tm) : Does := fun t d L => if t.form ≠ 1 ∨ t.n < p + d then none else if p + d < t.n then some (varT (t.n - 1),L) else some (runM (gL 0 d) s 0 L)
theorem steadyC : Steady gC 0 := ⟨by omega,fun t d L x h => by cases h⟩
section
variable (n : Nat) (h : Hps) (hg : Gd n h)
include hg
theorem dC (t : Tm) (d : Int) : callFn (LX (cFk kT Try.prog)) n h [(D.agg [.int .i64 (t).form,.int .i64 (t).n,.bool (t).hid,.str (t).name,slD 2 encL (t).levels,slD 6 encT (t).kids]),.int .i64 d] (cFk kT Try.prog 93) = .ok (.tup [(D.agg [.int .i64 0,.int .i64 0,.bool false,.str [],.nils,.nils]),.bool false]) n h := by
  have hgn := hg n (Nat.le_refl _)
  rw [f93_eq]; unfold c93; rw [callFn_eq (by rfl)]
  simp (disch:=first|assumption|omega|(simp (disch:=first|assumption|omega) only [sB,Nat.reduceAdd,Nat.reduceLT,Nat.reduceLeDiff,Nat.reduceEqDiff,Nat.reduceMul,↓reduceIte];done)|fail) only [sA,↓reduceIte,Nat.reduceLT,Nat.reduceEqDiff,Nat.reduceAdd,Nat.reduceLeDiff]
theorem dL (a b : Int) (t : Tm) (d : Int) (ha : 0 ≤ a ∧ a ≤ 10000000) (hb : 0 ≤ b ∧ b ≤ 10000000) (hd : 0 ≤ d ∧ d ≤ 10000000) (ht : t.form = 1 → 0 ≤ t.n ∧ t.n ≤ 100000000000) :
    callFn (LX (cFk kT Try.prog)) n h [.agg [.int .i64 a,.int .i64 b],(D.agg [.int .i64 (t).form,.int .i64 (t).n,.bool (t).hid,.str (t).name,slD 2 encL (t).levels,slD 6 encT (t).kids]),.int .i64 d] (cFk kT Try.prog 94) = .ok (if t.form = 1 ∧ a + d ≤ t.n then .tup [encT (varT (t.n + b)),.bool true] else .tup [(D.agg [.int .i64 0,.int .i64 0,.bool false,.str [],.nils,.nils]),.bool false]) n h := by
  have hgn := hg n (Nat.le_refl _)
  have hG : ∀ m,n ≤ m → Gd m h := fun m hm => Gd.mono hg hm
  have c1 : ∀ m h x,Gd m h → callFn (LX (cFk kT Try.prog)) m h [.int .i64 x] (cFk kT Try.prog 120) = .ok (.agg [.int .i64 1,.int .i64 x,.bool false,.str [],.nils,.nils]) m h := fun m h x hg => pVar m h hg x
  have gd2 : ∀ {m r k : Nat} {x y : Int} {g : Hps},r < m → Gd m ((r,.row k [.agg [.int .i64 x,.int .i64 y]]) :: g) = Gd m g := fun hr => gd_flat rfl hr
  rw [enc_var]
  generalize hf : t.form = f at *
  rw [f94_eq]; unfold c94; rw [callFn_eq (by rfl)]
  by_cases h1 : f = 1
  · subst h1
    have ht' := ht rfl
    by_cases h2 : a + d ≤ t.n
    · rw [if_pos ⟨rfl,h2⟩]
      have h2' : decide (a + d ≤ t.n) = true := decide_eq_true h2
      simp (disch:=first|assumption|omega|(simp (disch:=first|assumption|omega) only [sB,Nat.reduceAdd,Nat.reduceLT,Nat.reduceLeDiff,Nat.reduceEqDiff,Nat.reduceMul,↓reduceIte,hG,gd_tmf,gd_zt,gd2];done)|fail) only [sA,↓reduceIte,Nat.reduceLT,Nat.reduceEqDiff,Nat.reduceAdd,Nat.reduceLeDiff,hf,h2',c1,hG,gd_tmf,gd_zt,gd2]
    · rw [if_neg (fun hh => h2 hh.2)]
      have h2' : decide (a + d ≤ t.n) = false := decide_eq_false h2
      simp (disch:=first|assumption|omega|(simp (disch:=first|assumption|omega) only [sB,Nat.reduceAdd,Nat.reduceLT,Nat.reduceLeDiff,Nat.reduceEqDiff,Nat.reduceMul,↓reduceIte,hG,gd_tmf,gd_zt,gd2];done)|fail) only [sA,↓reduceIte,Nat.reduceLT,Nat.reduceEqDiff,Nat.reduceAdd,Nat.reduceLeDiff,hf,h2',c1,hG,gd_tmf,gd_zt,gd2]
  · rw [if_neg (fun hh => h1 hh.1)]
    simp (disch:=first|assumption|omega|(simp (disch:=first|assumption|omega) only [sB,Nat.reduceAdd,Nat.reduceLT,Nat.reduceLeDiff,Nat.reduceEqDiff,Nat.reduceMul,↓reduceIte,hG,gd_tmf,gd_zt,gd2];done)|fail) only [sA,↓reduceIte,Nat.reduceLT,Nat.reduceEqDiff,Nat.reduceAdd,Nat.reduceLeDiff,hf,h1,c1,hG,gd_tmf,gd_zt,gd2]
end
theorem doesC {r : Nat} : DoesOk (.fn 93 [] []) r gC 0 := fun t _ d L _ _ _ _ n h hg _ _ => ⟨fun _ => by rw [callX_fn]; exact dC n h hg t d,fun x hx => (by cases hx)⟩
end Go.Proofs.Ytdijijblccmfbaa
