/- The printer on a row of lambdas. -/
import Derived.Test.YtpbpmpabndgeeaaDoorPY
set_option linter.unusedSimpArgs false
set_option linter.unusedVariables false
namespace Go.Proofs.YtpbpmpabndgeeaaDoor
open Go

def setT : List Nat := [83,101,116,32,48]
def mtxt (hid : Bool) (k : Nat) : Nat → Nat → List Nat
  | 0,d => vtxt k d
  | m + 1,d => ltxt hid d setT (mtxt hid k m (d + 1))
theorem TOk.le {A : Tm} {d C C' : Nat} {T : List Nat} (h : TOk A d T C) (hc : C ≤ C') : TOk A d T C' := fun hg _ _ _ P hl => by
  obtain ⟨n',h',q',a,b,c,d,e,f⟩ := h hg P hl
  exact ⟨n',h',q',a,b,c,d,e,by omega⟩
theorem strN_4 {d : Nat} (h : d < 64) : strN 4 d = 2 ^ 100 * strN 4 (d + 1) := by
  unfold strN
  rw [Nat.pow_eq,Nat.pow_eq]
  rw [← Nat.pow_add]; congr 1; omega
theorem strN_2 {d : Nat} (h : d < 64) : strN 2 d = 2 ^ 60 * strN 4 (d + 1) := by
  unfold strN
  rw [Nat.pow_eq,Nat.pow_eq]
  rw [← Nat.pow_add]; congr 1; omega
theorem strN_1 (d : Nat) : strN 1 d ≤ strN 4 d := Nat.pow_le_pow_right (by omega) (by omega)
theorem tN (hid : Bool) {k : Nat} (hk : k < 100) : ∀ (m d : Nat),m + d < 60 → TOk (lamN hid (k : Nat) m) d (mtxt hid k m d) (9 * strN 4 d)
  | 0,d,hd => TOk.le (C := 9 * strN 1 d) (fun {n h} hg {r q S} P hl => tVar hg P hk (by omega) (by unfold mtxt vtxt at hl; omega)) (by have := strN_1 d; omega)
  | m + 1,d,hd => by
    intro hg r q S P hl
    have hA : TOk set0 d setT (9 * strN 2 d) := fun {n h} hg {r q S} P hl => tSet hg P (by omega)
    have hB : TOk (lamN hid (k : Nat) m) (d + 1) (mtxt hid k m (d + 1)) (9 * strN 4 (d + 1)) := fun {n h} hg {r q S} P hl => tN hid hk m (d + 1) (by omega) hg P hl
    have h4 := strN_4 (d := d) (by omega)
    have h2 := strN_2 (d := d) (by omega)
    have hb := strN_big 4 (d + 1)
    exact tLam hg P hA hB (by omega) (by rw [h4,h2]; generalize strN 4 (d + 1) = X at hb; omega) hl
theorem mtxt_len (hid : Bool) (k : Nat) : ∀ m d,(mtxt hid k m d).length ≤ 30 * m + 10
  | 0,d => by
    show (vtxt k d).length ≤ _
    unfold vtxt
    have h1 := dig_len (d - 1 - k)
    have h2 := dig_len (k - d)
    split <;> simp only [List.length_cons] <;> omega
  | m + 1,d => by
    have := mtxt_len hid k m (d + 1)
    have h1 := dig_len d
    have h2 : (opn hid).length = 1 := by cases hid <;> rfl
    have h3 : (cls hid).length = 1 := by cases hid <;> rfl
    show (ltxt hid d setT (mtxt hid k m (d + 1))).length ≤ _
    unfold ltxt setT
    simp only [List.length_append,List.length_cons,List.length_nil]
    omega
end Go.Proofs.YtpbpmpabndgeeaaDoor
