/- Lifting and putting in, in plain Lean. No condition. -/
import Derived.Test.YtdijijblccmfbaaYTA
set_option linter.unusedSimpArgs false
set_option linter.unusedVariables false
namespace Go.Proofs.Ytdijijblccmfbaa
open Go

def undr (f : Int) (i : Nat) (d : Int) : Int := if i = 1 ∧ bindsN f = true then d + 1 else d
mutual
def cleanT : Trm → Trm
  | .mk f n h nm ls ks => .mk f (if f = 1 ∨ f = 11 then n else 0) (if f = 3 ∨ f = 4 ∨ f = 5 then h else false) (if f = 10 then nm else []) (if f = 2 ∨ f = 10 then ls else []) (cleanTs ks)
def cleanTs : List Trm → List Trm
  | [] => []
  | k :: t => cleanT k :: cleanTs t
end
mutual
def rlift (b : Int) : Trm → Int → Trm
  | .mk f n h nm ls ks,a => if f = 1 ∧ a ≤ n then .mk f (n + b) h nm ls ks else .mk f n h nm ls (rlifts b f 0 ks a)
def rlifts (b f : Int) (i : Nat) : List Trm → Int → List Trm
  | [],_ => []
  | k :: t,a => rlift b k (undr f i a) :: rlifts b f (i + 1) t a
end
mutual
def rsub (p : Int) (s : Trm) : Trm → Int → Trm
  | .mk f n h nm ls ks,d => if f = 1 then (if n = p + d then rlift d s 0 else if p + d < n then .mk f (n - 1) h nm ls ks else .mk f n h nm ls ks) else .mk f n h nm ls (rsubs p s f 0 ks d)
def rsubs (p : Int) (s : Trm) (f : Int) (i : Nat) : List Trm → Int → List Trm
  | [],_ => []
  | k :: t,d => rsub p s k (undr f i d) :: rsubs p s f (i + 1) t d
end
def leafT (t : Trm) : Bool := allT (fun t => !decide (t.form = 1) || t.kids.isEmpty) t
theorem leaf_eq (f n : Int) (h : Bool) (nm : List Nat) (ls : List Lev) (ks : List Trm) : leafT (.mk f n h nm ls ks) = true ↔ (f = 1 → ks = []) ∧ ∀ k,k ∈ ks → leafT k = true := by
  unfold leafT
  rw [allT_eq,allTs_eq,Bool.and_eq_true,List.all_eq_true]
  show ((!decide (f = 1) || ks.isEmpty) = true) ∧ _ ↔ _
  refine and_congr ?_ Iff.rfl
  by_cases hf : f = 1 <;> simp [hf]
theorem undr_low (f : Int) (i : Nat) (d : Int) : d ≤ undr f i d := by unfold undr; split <;> omega

end Go.Proofs.Ytdijijblccmfbaa
