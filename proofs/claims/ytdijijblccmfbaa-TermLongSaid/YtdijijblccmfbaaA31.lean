/- Tables of functions: a closed run by a table. No condition. -/
import Derived.Test.YtdijijblccmfbaaA30
set_option linter.unusedSimpArgs false
set_option linter.unusedVariables false
namespace Go.Proofs.Ytdijijblccmfbaa
open Go

inductive Tb where
  | lf
  | nd (l : Tb) (k : Nat) (v : DFn) (r : Tb)
noncomputable def Tb.look (t : Tb) (F : Nat → DFn) (k : Nat) : DFn :=
  Tb.rec (motive := fun _ => DFn) (F k) (fun _ j v _ il ir => Bool.rec (motive := fun _ => DFn) (Bool.rec (motive := fun _ => DFn) ir il (Nat.blt k j)) v (Nat.beq k j)) t
def Tb.Ok (F : Nat → DFn) : Tb → Prop
  | .lf => True
  | .nd l k v r => l.Ok F ∧ F k = v ∧ r.Ok F
theorem Tb.look_eq {F : Nat → DFn} : ∀ {t : Tb}, t.Ok F → t.look F = F
  | .lf, _ => rfl
  | .nd l j v r, ⟨h1, h2, h3⟩ => by
    funext k
    show Bool.rec (motive := fun _ => DFn) (Bool.rec (motive := fun _ => DFn) (r.look F k) (l.look F k) (Nat.blt k j)) v (Nat.beq k j) = F k
    rw [Tb.look_eq h1, Tb.look_eq h3]
    cases hb : Nat.beq k j with
    | true => rw [beq_eq hb]; exact h2.symm
    | false => cases Nat.blt k j <;> rfl

/-- is it the bool that is wanted? -/
def isB (b : Bool) : Rd → Bool
  | .ok (.bool t) _ _ => eqB b t
  | _ => false
theorem isB_inv {b : Bool} {r : Rd} (h : isB b r = true) : ∃ n' h', r = .ok (.bool b) n' h' := by
  cases r with
  | bad => cases h
  | ok d n' h' =>
    cases d with
    | bool t =>
      have : eqB b t = true := h
      rw [eqB_eq] at this
      rw [eq_of_beq this]
      exact ⟨n', h', rfl⟩
    | _ => cases h
/-- a closed run -/
theorem closed_run {t : Tb} {F : Nat → DFn} (ht : t.Ok F) {fuel : Nat} {f : Nat} {args : List D} {b : Bool} (h : isB b (callFn (exec (t.look F) fuel) 0 [] args (t.look F f)) = true) : ∃ n' h', callFn (LX F) 0 [] args (F f) = .ok (.bool b) n' h' := by
  rw [Tb.look_eq ht] at h
  obtain ⟨n', h', h1⟩ := isB_inv h
  exact ⟨n', h', callFn_LX F h1⟩
end Go.Proofs.Ytdijijblccmfbaa
