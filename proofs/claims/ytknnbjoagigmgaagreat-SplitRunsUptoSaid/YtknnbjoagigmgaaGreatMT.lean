/- Trees as Lean's trees, how they are handed over as data; what a tree comes to. No condition. -/
import Derived.Test.YtknnbjoagigmgaaGreatMV
set_option linter.unusedSimpArgs false
set_option linter.unusedVariables false
namespace Go.Proofs.YtknnbjoagigmgaaGreat
open Go

def encS (s : List Nat) : D := .str s
inductive Tre where
  | mk (leaf : Bool) (right at' : Int) (names : Sl (List Nat)) (nil full : Bool) (sub spare : List Tre)
def Tre.leaf : Tre → Bool | .mk l _ _ _ _ _ _ _ => l
def Tre.right : Tre → Int | .mk _ r _ _ _ _ _ _ => r
def Tre.at' : Tre → Int | .mk _ _ a _ _ _ _ _ => a
def Tre.names : Tre → Sl (List Nat) | .mk _ _ _ n _ _ _ _ => n
def Tre.sub : Tre → Sl Tre | .mk _ _ _ _ a b s sp => ⟨a,b,s,sp⟩
mutual
noncomputable def encW : Tre → D
  | .mk l r a n nil full s sp => .agg [.bool l,.int .i64 r,.int .i64 a,slD 1 encS n,bif nil && s.isEmpty && sp.isEmpty then .nils else .sl 5 (encWs s) (encWs sp) full]
noncomputable def encWs : List Tre → List D
  | [] => []
  | p :: t => encW p :: encWs t
end
mutual
def sizeR : Tre → Nat
  | .mk _ _ _ _ _ _ s _ => 1 + sizeRs s
def sizeRs : List Tre → Nat
  | [] => 0
  | p :: t => sizeR p + sizeRs t
end
mutual
def finR : Tre → Prop
  | .mk _ _ _ n _ _ s _ => n.el.length ≤ 9223372036854775807 ∧ finRs s
def finRs : List Tre → Prop
  | [] => True
  | p :: t => finR p ∧ finRs t
end
mutual
def szR : Tre → Nat
  | .mk _ _ _ _ _ _ s _ => szRs s 1
def szRs : List Tre → Nat → Nat
  | [],n => n
  | k :: r,n => if n ≤ 500 then szRs r (n + szR k) else n
end
theorem encWs_eq (l : List Tre) : encWs l = l.map encW := by
  induction l with
  | nil => rfl
  | cons p t ih => rw [encWs,ih]; rfl
theorem encW_eq (t : Tre) : encW t = .agg [.bool t.leaf,.int .i64 t.right,.int .i64 t.at',slD 1 encS t.names,slD 5 encW t.sub] := by
  cases t with
  | mk l r a n nil full s sp => rw [encW,encWs_eq,encWs_eq]; rfl
theorem flatR (t : Tre) : flat (.agg [.bool t.leaf,.int .i64 t.right,.int .i64 t.at',slD 1 encS t.names,slD 5 encW t.sub]) = true := by rw [flat_agg]; simp [flat1_slD,flat1_int,flat1_bool]
theorem sizeR_eq (t : Tre) : sizeR t = 1 + sizeRs t.sub.el := by cases t; rw [sizeR]; rfl
theorem finR_eq (t : Tre) : finR t = (t.names.el.length ≤ 9223372036854775807 ∧ finRs t.sub.el) := by cases t; rw [finR]; rfl
theorem szR_eq (t : Tre) : szR t = szRs t.sub.el 1 := by cases t; rw [szR]; rfl
theorem szRs_cons (k : Tre) (r : List Tre) (n : Nat) : szRs (k :: r) n = if n ≤ 500 then szRs r (n + szR k) else n := by rw [szRs]
theorem sizeRs_cons (p : Tre) (t : List Tre) : sizeRs (p :: t) = sizeR p + sizeRs t := by rw [sizeRs]
theorem sizeR_mem {l : List Tre} {p : Tre} (h : p ∈ l) : sizeR p ≤ sizeRs l := by
  induction l with
  | nil => cases h
  | cons q t ih =>
    rw [sizeRs_cons]
    rcases List.mem_cons.1 h with rfl | h
    · omega
    · have := ih h; omega
theorem lenR_le : ∀ l : List Tre,l.length ≤ sizeRs l
  | [] => Nat.zero_le _
  | p :: t => by
    have h1 := sizeR_eq p
    have h2 := lenR_le t
    rw [sizeRs_cons,List.length_cons]
    omega
theorem finR_mem {l : List Tre} {p : Tre} (hl : finRs l) (h : p ∈ l) : finR p := by
  induction l with
  | nil => cases h
  | cons q t ih =>
    rw [finRs] at hl
    rcases List.mem_cons.1 h with rfl | h
    · exact hl.1
    · exact ih hl.2 h
theorem finRs_of {l : List Tre} (h : ∀ p,p ∈ l → finR p) : finRs l := by
  induction l with
  | nil => rw [finRs]; trivial
  | cons q t ih => rw [finRs]; exact ⟨h q (by simp),ih (fun p hp => h p (by simp [hp]))⟩
mutual
theorem szR_le : ∀ t : Tre,szR t ≤ sizeR t
  | .mk _ _ _ _ _ _ s _ => by rw [szR,sizeR]; exact szRs_le s 1
theorem szRs_le : ∀ (l : List Tre) (n : Nat),szRs l n ≤ n + sizeRs l
  | [],n => by rw [szRs]; omega
  | k :: r,n => by
    have h1 := szR_le k
    have h2 := szRs_le r (n + szR k)
    rw [szRs,sizeRs]
    split <;> omega
end

def hitF : List (List Nat) → Nat → List Nat → Nat → Option Nat
  | [],_,_,_ => none
  | a :: t,k,x,i => if a = x ∧ i < k then some i else hitF t k x (i + 1)
theorem hitF_late : ∀ (l : List (List Nat)) (k : Nat) (x : List Nat) (i : Nat),k ≤ i → hitF l k x i = none
  | [],_,_,_,_ => by rw [hitF]
  | a :: t,k,x,i,h => by rw [hitF,if_neg (fun e => by omega)]; exact hitF_late t k x (i + 1) (by omega)
theorem hitF_lt : ∀ {l : List (List Nat)} {k : Nat} {x : List Nat} {i j : Nat},hitF l k x i = some j → j < k
  | [],_,_,_,_,h => by rw [hitF] at h; cases h
  | a :: t,k,x,i,j,h => by
    rw [hitF] at h
    split at h
    · rename_i h1; cases h; exact h1.2
    · exact hitF_lt h
def runR : Nat → Tre → List Pat → Int × Bool
  | 0,t,_ => if t.leaf then (t.right,true) else (0,false)
  | f + 1,t,vals => if t.leaf then (t.right,true) else
    if h : t.at'.toNat < vals.length then
      if 0 ≤ t.at' ∧ (vals[t.at'.toNat]'h).form = 2 then
        match hitF t.names.el t.sub.el.length (vals[t.at'.toNat]'h).name 0 with
        | none => (0,false)
        | some i => if hi : i < t.sub.el.length then runR f (t.sub.el[i]'hi) (vals.take t.at'.toNat ++ (vals[t.at'.toNat]'h).kids.el ++ vals.drop (t.at'.toNat + 1)) else (0,false)
      else (0,false)
    else (0,false)
theorem sizePs_app (l m : List Pat) : sizePs (l ++ m) = sizePs l + sizePs m := by
  induction l with
  | nil => rw [List.nil_append,sizePs]; omega
  | cons p t ih => rw [List.cons_append,sizePs_cons,sizePs_cons,ih]; omega
theorem lenP_le : ∀ l : List Pat,l.length ≤ sizePs l
  | [] => Nat.zero_le _
  | p :: t => by
    have h1 := sizeP_eq p
    have h2 := lenP_le t
    rw [sizePs_cons,List.length_cons]
    omega
theorem size_next {l : List Pat} {i : Nat} (hi : i < l.length) : sizePs (l.take i ++ l[i].kids.el ++ l.drop (i + 1)) + 1 = sizePs l := by
  have h1 : l = l.take i ++ l[i] :: l.drop (i + 1) := by rw [← List.drop_eq_getElem_cons hi,List.take_append_drop]
  have h2 : sizePs l = sizePs (l.take i) + (sizeP l[i] + sizePs (l.drop (i + 1))) := by
    have h3 := congrArg sizePs h1
    rw [sizePs_app,sizePs_cons] at h3
    exact h3
  have h4 := sizeP_eq l[i]
  rw [sizePs_app,sizePs_app]
  omega
theorem str_eql {a b : List Nat} : binD .eql (.str a) (.str b) = .bool (decide (a = b)) := by
  show D.bool (eqN a b) = _
  rw [eqN_eq]
  by_cases h : a = b
  · rw [decide_eq_true h,h,beq_self_eq_true]
  · rw [decide_eq_false h,beq_eq_false_iff_ne.2 h]
end Go.Proofs.YtknnbjoagigmgaaGreat
