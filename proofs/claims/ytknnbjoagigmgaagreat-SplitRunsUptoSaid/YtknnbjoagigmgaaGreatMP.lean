/- Patterns as Lean's trees, and how they are handed over as data. No condition. -/
import Derived.Test.YtknnbjoagigmgaaGreatA41
set_option linter.unusedSimpArgs false
set_option linter.unusedVariables false
namespace Go.Proofs.YtknnbjoagigmgaaGreat
open Go

inductive Pat where
  | mk (form : Int) (name : List Nat) (nil full : Bool) (kids spare : List Pat)
def Pat.form : Pat → Int | .mk f _ _ _ _ _ => f
def Pat.name : Pat → List Nat | .mk _ s _ _ _ _ => s
def Pat.kids : Pat → Sl Pat | .mk _ _ b c ks sp => ⟨b,c,ks,sp⟩
mutual
noncomputable def encP : Pat → D
  | .mk f nm nil full ks sp => .agg [.int .i64 f,.str nm,bif nil && ks.isEmpty && sp.isEmpty then .nils else .sl 3 (encPs ks) (encPs sp) full]
noncomputable def encPs : List Pat → List D
  | [] => []
  | p :: t => encP p :: encPs t
end
mutual
def sizeP : Pat → Nat
  | .mk _ _ _ _ ks _ => 1 + sizePs ks
def sizePs : List Pat → Nat
  | [] => 0
  | p :: t => sizeP p + sizePs t
end
mutual
def finP : Pat → Prop
  | .mk _ _ _ _ ks _ => ks.length ≤ 9223372036854775807 ∧ finPs ks
def finPs : List Pat → Prop
  | [] => True
  | p :: t => finP p ∧ finPs t
end
theorem encPs_eq (l : List Pat) : encPs l = l.map encP := by
  induction l with
  | nil => rfl
  | cons p t ih => rw [encPs,ih]; rfl
theorem encP_eq (p : Pat) : encP p = .agg [.int .i64 p.form,.str p.name,slD 3 encP p.kids] := by
  cases p with
  | mk f nm nil full ks sp => rw [encP,encPs_eq,encPs_eq]; rfl
theorem flatP (p : Pat) : flat (.agg [.int .i64 p.form,.str p.name,slD 3 encP p.kids]) = true := by rw [flat_agg]; simp [flat1_slD,flat1_int,flat1_str]
theorem sizeP_eq (p : Pat) : sizeP p = 1 + sizePs p.kids.el := by cases p; rw [sizeP]; rfl
theorem finP_eq (p : Pat) : finP p = (p.kids.el.length ≤ 9223372036854775807 ∧ finPs p.kids.el) := by cases p; rw [finP]; rfl
theorem sizePs_cons (p : Pat) (t : List Pat) : sizePs (p :: t) = sizeP p + sizePs t := by rw [sizePs]
theorem sizePs_mem {l : List Pat} {p : Pat} (h : p ∈ l) : sizeP p ≤ sizePs l := by
  induction l with
  | nil => cases h
  | cons q t ih =>
    rw [sizePs_cons]
    rcases List.mem_cons.1 h with rfl | h
    · omega
    · have := ih h; omega
theorem finPs_mem {l : List Pat} {p : Pat} (hl : finPs l) (h : p ∈ l) : finP p := by
  induction l with
  | nil => cases h
  | cons q t ih =>
    rw [finPs] at hl
    rcases List.mem_cons.1 h with rfl | h
    · exact hl.1
    · exact ih hl.2 h
theorem finPs_of {l : List Pat} (h : ∀ p,p ∈ l → finP p) : finPs l := by
  induction l with
  | nil => rw [finPs]; trivial
  | cons q t ih => rw [finPs]; exact ⟨h q (by simp),ih (fun p hp => h p (by simp [hp]))⟩
theorem str_neq {a b : List Nat} : binD .neq (.str a) (.str b) = .bool (!decide (a = b)) := by
  show D.bool (Bool.not (eqN a b)) = _
  rw [eqN_eq]
  by_cases h : a = b
  · rw [decide_eq_true h,h,beq_self_eq_true]
  · rw [decide_eq_false h,beq_eq_false_iff_ne.2 h]
theorem sizePs_all {H : Type} {l : List Pat} {m : List (DataW H)} (h : All2 (fun p y => sizeP p ≤ Rows.uptoBulk y ∧ finP p) l m) : sizePs l ≤ Rows.uptoBulkAll m := by
  induction h with
  | nil => rw [sizePs]; exact Nat.zero_le _
  | cons h1 _ ih => rw [sizePs_cons,bulk_cons]; have := h1.1; omega
theorem pat_arg {H : Type} : ∀ (f : Nat) (x : DataW H),Fit Tryz.prog f 30 x → ∃ p,dVal Tryz.prog f 30 x = encP p ∧ sizeP p ≤ Rows.uptoBulk x ∧ finP p := by
  intro f
  induction f using Nat.strongRecOn with
  | _ f ih =>
  intro x h
  obtain ⟨g,a,b,c,rfl,rfl,h1,h2,h3,h4⟩ := struct3 Tryz.underlying30 h
  obtain ⟨i,e1,_⟩ := int_arg Tryz.underlying3 h1
  obtain ⟨l,rfl,e2,_⟩ := str_arg Tryz.underlying9 h2
  obtain ⟨s,e3,m3,h5⟩ := slice_arg (k := 3) (enc := encP) (R := fun p y => sizeP p ≤ Rows.uptoBulk y ∧ finP p) Tryz.underlying28 (by kernel_rfl) h3 (fun g' y hg hy => ih g' (by omega) y hy)
  refine ⟨.mk i (l.map UInt8.toNat) s.nil s.full s.el s.sp,?_,?_,?_⟩
  · rw [h4,encP_eq]
    show D.agg (cells (dVal _ g 3 a) ++ (cells (dVal _ g 9 _) ++ cells (dVal _ g 28 c))) = _
    rw [e1,e2,e3,cells_int,cells_str,cells_slD]
    rfl
  · rw [sizeP_eq]
    show 1 + sizePs s.el ≤ _
    rw [bulk_agg,bulk_cons,bulk_cons,bulk_cons,bulk_nil]
    rcases h5 with ⟨rfl,h6,_⟩ | ⟨es,sp,rfl,h6,_⟩
    · rw [h6,sizePs]; have := bulk_one a; omega
    · have := sizePs_all h6
      rw [bulk_slice]
      omega
  · rw [finP_eq]
    refine ⟨by show s.el.length ≤ _; have : maxLen = 9223372036854775807 := rfl; omega,finPs_of (fun p hp => ?_)⟩
    replace hp : p ∈ s.el := hp
    rcases h5 with ⟨_,h6,_⟩ | ⟨es,sp,_,h6,_⟩
    · rw [h6] at hp; cases hp
    · obtain ⟨_,_,h9⟩ := h6.mem p hp
      exact h9.2
theorem pats_arg {H : Type} (f : Nat) (x : DataW H) (h : Fit Tryz.prog f 28 x) : ∃ s : Sl Pat,dVal Tryz.prog f 28 x = slD 3 encP s ∧ sizePs s.el ≤ Rows.uptoBulk x ∧ s.el.length ≤ 9223372036854775807 ∧ finPs s.el := by
  obtain ⟨s,e3,m3,h5⟩ := slice_arg (k := 3) (enc := encP) (R := fun p y => sizeP p ≤ Rows.uptoBulk y ∧ finP p) Tryz.underlying28 (by kernel_rfl) h (fun g' y hg hy => pat_arg g' y hy)
  refine ⟨s,e3,?_,by have : maxLen = 9223372036854775807 := rfl; omega,finPs_of (fun p hp => ?_)⟩
  · rcases h5 with ⟨rfl,h6,_⟩ | ⟨es,sp,rfl,h6,_⟩
    · rw [h6,sizePs]; exact Nat.zero_le _
    · have := sizePs_all h6
      rw [bulk_slice]
      omega
  · rcases h5 with ⟨_,h6,_⟩ | ⟨es,sp,_,h6,_⟩
    · rw [h6] at hp; cases hp
    · obtain ⟨_,_,h9⟩ := h6.mem p hp
      exact h9.2
end Go.Proofs.YtknnbjoagigmgaaGreat
