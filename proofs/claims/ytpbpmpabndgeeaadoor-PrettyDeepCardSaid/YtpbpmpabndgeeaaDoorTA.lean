/- Terms as Lean's trees, and how they are handed over as data. No condition. -/
import Derived.Test.YtpbpmpabndgeeaaDoorLP
set_option linter.unusedSimpArgs false
set_option linter.unusedVariables false
namespace Go.Proofs.YtpbpmpabndgeeaaDoor
open Go

inductive Trm where
  | mk (form n : Int) (hid : Bool) (name : List Nat) (levels : List Lev) (kids : List Trm)
def Trm.form : Trm → Int | .mk f _ _ _ _ _ => f
def Trm.n : Trm → Int | .mk _ n _ _ _ _ => n
def Trm.hid : Trm → Bool | .mk _ _ b _ _ _ => b
def Trm.name : Trm → List Nat | .mk _ _ _ s _ _ => s
def Trm.levels : Trm → List Lev | .mk _ _ _ _ l _ => l
def Trm.kids : Trm → List Trm | .mk _ _ _ _ _ k => k
inductive Tm where
  | mk (form n : Int) (hid : Bool) (name : List Nat) (levels : Sl SLev) (nil full : Bool) (kids spare : List Tm)
def Tm.form : Tm → Int | .mk f _ _ _ _ _ _ _ _ => f
def Tm.n : Tm → Int | .mk _ n _ _ _ _ _ _ _ => n
def Tm.hid : Tm → Bool | .mk _ _ b _ _ _ _ _ _ => b
def Tm.name : Tm → List Nat | .mk _ _ _ s _ _ _ _ _ => s
def Tm.levels : Tm → Sl SLev | .mk _ _ _ _ l _ _ _ _ => l
def Tm.kids : Tm → Sl Tm | .mk _ _ _ _ _ a b ks sp => ⟨a,b,ks,sp⟩
mutual
noncomputable def encT : Tm → D
  | .mk f n hid nm ls nil full ks sp => .agg [.int .i64 f,.int .i64 n,.bool hid,.str nm,slD 2 encL ls,bif nil && ks.isEmpty && sp.isEmpty then .nils else .sl 6 (encTs ks) (encTs sp) full]
noncomputable def encTs : List Tm → List D
  | [] => []
  | p :: t => encT p :: encTs t
end
mutual
def Tm.abs : Tm → Trm
  | .mk f n hid nm ls _ _ ks _ => .mk f n hid nm (ls.el.map SLev.lev) (absS ks)
def absS : List Tm → List Trm
  | [] => []
  | p :: t => p.abs :: absS t
end
theorem encTs_eq (l : List Tm) : encTs l = l.map encT := by
  induction l with
  | nil => rfl
  | cons p t ih => rw [encTs,ih]; rfl
theorem encT_eq (t : Tm) : encT t = .agg [.int .i64 t.form,.int .i64 t.n,.bool t.hid,.str t.name,slD 2 encL t.levels,slD 6 encT t.kids] := by
  cases t with
  | mk f n hid nm ls nil full ks sp => rw [encT,encTs_eq,encTs_eq]; rfl
theorem absS_eq (l : List Tm) : absS l = l.map Tm.abs := by
  induction l with
  | nil => rfl
  | cons p t ih => rw [absS,ih]; rfl
theorem abs_eq (t : Tm) : t.abs = .mk t.form t.n t.hid t.name (t.levels.el.map SLev.lev) (t.kids.el.map Tm.abs) := by
  cases t with
  | mk f n hid nm ls nil full ks sp => rw [Tm.abs,absS_eq]; rfl
theorem abs_form (t : Tm) : t.abs.form = t.form := by rw [abs_eq]; rfl
theorem abs_n (t : Tm) : t.abs.n = t.n := by rw [abs_eq]; rfl
theorem abs_hid (t : Tm) : t.abs.hid = t.hid := by rw [abs_eq]; rfl
theorem abs_name (t : Tm) : t.abs.name = t.name := by rw [abs_eq]; rfl
theorem abs_levels (t : Tm) : t.abs.levels = t.levels.el.map SLev.lev := by rw [abs_eq]; rfl
theorem abs_kids (t : Tm) : t.abs.kids = t.kids.el.map Tm.abs := by rw [abs_eq]; rfl
theorem Trm.eta (t : Trm) : t = .mk t.form t.n t.hid t.name t.levels t.kids := by cases t; rfl
mutual
theorem Trm.ind {P : Trm → Prop} (h : ∀ t,(∀ k,k ∈ t.kids → P k) → P t) : ∀ t : Trm,P t
  | .mk _ _ _ _ _ ks => h _ (fun k hk => Trm.inds h ks k hk)
theorem Trm.inds {P : Trm → Prop} (h : ∀ t,(∀ k,k ∈ t.kids → P k) → P t) : ∀ (ks : List Trm) (k : Trm),k ∈ ks → P k
  | [],_,hk => by cases hk
  | a :: t,k,hk => by
    rcases List.mem_cons.1 hk with e | hk
    · rw [e]; exact Trm.ind h a
    · exact Trm.inds h t k hk
end
mutual
theorem Tm.ind {P : Tm → Prop} (h : ∀ t,(∀ k,k ∈ t.kids.el → P k) → P t) : ∀ t : Tm,P t
  | .mk _ _ _ _ _ _ _ ks _ => h _ (fun k hk => Tm.inds h ks k hk)
theorem Tm.inds {P : Tm → Prop} (h : ∀ t,(∀ k,k ∈ t.kids.el → P k) → P t) : ∀ (ks : List Tm) (k : Tm),k ∈ ks → P k
  | [],_,hk => by cases hk
  | a :: t,k,hk => by
    rcases List.mem_cons.1 hk with e | hk
    · rw [e]; exact Tm.ind h a
    · exact Tm.inds h t k hk
end
mutual
def sizeT : Trm → Nat
  | .mk _ _ _ _ _ ks => 1 + sizeTs ks
def sizeTs : List Trm → Nat
  | [] => 0
  | p :: t => sizeT p + sizeTs t
end
mutual
def highT : Trm → Nat
  | .mk _ _ _ _ _ ks => 1 + highTs ks
def highTs : List Trm → Nat
  | [] => 0
  | p :: t => max (highT p) (highTs t)
end
theorem sizeT_eq (t : Trm) : sizeT t = 1 + sizeTs t.kids := by cases t; rw [sizeT]; rfl
theorem highT_eq (t : Trm) : highT t = 1 + highTs t.kids := by cases t; rw [highT]; rfl
theorem sizeTs_nil : sizeTs [] = 0 := by rw [sizeTs]
theorem highTs_nil : highTs [] = 0 := by rw [highTs]
theorem sizeTs_cons (p : Trm) (t : List Trm) : sizeTs (p :: t) = sizeT p + sizeTs t := by rw [sizeTs]
theorem highTs_cons (p : Trm) (t : List Trm) : highTs (p :: t) = max (highT p) (highTs t) := by rw [highTs]
theorem sizeTs_app (l m : List Trm) : sizeTs (l ++ m) = sizeTs l + sizeTs m := by
  induction l with
  | nil => rw [List.nil_append,sizeTs_nil]; omega
  | cons p t ih => rw [List.cons_append,sizeTs_cons,sizeTs_cons,ih]; omega
theorem highTs_app (l m : List Trm) : highTs (l ++ m) = max (highTs l) (highTs m) := by
  induction l with
  | nil => rw [List.nil_append,highTs_nil]; omega
  | cons p t ih => rw [List.cons_append,highTs_cons,highTs_cons,ih]; omega
theorem sizeT_pos (t : Trm) : 1 ≤ sizeT t := by rw [sizeT_eq]; omega
theorem highT_pos (t : Trm) : 1 ≤ highT t := by rw [highT_eq]; omega
theorem sizeTs_len (l : List Trm) : l.length ≤ sizeTs l := by
  induction l with
  | nil => exact Nat.zero_le _
  | cons p t ih => have := sizeT_pos p; rw [sizeTs_cons,List.length_cons]; omega
theorem sizeTs_mem {l : List Trm} {k : Trm} (h : k ∈ l) : sizeT k ≤ sizeTs l := by
  induction l with
  | nil => cases h
  | cons p t ih =>
    rw [sizeTs_cons]
    rcases List.mem_cons.1 h with rfl | h
    · omega
    · have := ih h; omega
theorem highTs_mem {l : List Trm} {k : Trm} (h : k ∈ l) : highT k ≤ highTs l := by
  induction l with
  | nil => cases h
  | cons p t ih =>
    rw [highTs_cons]
    rcases List.mem_cons.1 h with rfl | h
    · omega
    · have := ih h; omega
theorem highTs_le {l : List Trm} {x : Nat} : highTs l ≤ x ↔ ∀ k,k ∈ l → highT k ≤ x := by
  induction l with
  | nil => rw [highTs_nil]; simp
  | cons p t ih =>
    rw [highTs_cons]
    simp only [List.mem_cons,forall_eq_or_imp]
    rw [← ih]
    omega
theorem high_size (t : Trm) : highT t ≤ sizeT t := Trm.ind (P := fun t => highT t ≤ sizeT t) (fun t ih => by
  rw [highT_eq,sizeT_eq]
  have : highTs t.kids ≤ sizeTs t.kids := highTs_le.2 fun k hk => Nat.le_trans (ih k hk) (sizeTs_mem hk)
  omega) t
def kidsN (f : Int) : Int := if f = 1 ∨ f = 2 ∨ f = 10 ∨ f = 11 then 0 else if f = 8 ∨ f = 9 then 1 else if f = 7 then 3 else if f = 3 ∨ f = 4 ∨ f = 5 ∨ f = 6 then 2 else -1
def bindsN (f : Int) : Bool := decide (f = 3 ∨ f = 4 ∨ f = 6)
def Lev.canon (l : Lev) : Bool := l.right && (decide (l.norm.n = l.n) && decide (l.norm.v = l.v))
def partOk (t : Trm) : Bool :=
  decide (kidsN t.form = (t.kids.length : Int)) &&
  (if t.form = 1 ∨ t.form = 11 then decide (0 ≤ t.n ∧ t.n ≤ 1073741824)
  else if t.form = 7 then decide (t.kids.head?.map Trm.form = some 6)
  else if t.form = 2 then decide (t.levels.length = 1) && t.levels.all Lev.canon
  else if t.form = 10 then decide (t.name ≠ [] ∧ t.name.length ≤ 60) && t.levels.all Lev.canon
  else true)
mutual
def allT (p : Trm → Bool) : Trm → Bool
  | .mk f n hid nm ls ks => p (.mk f n hid nm ls ks) && allTs p ks
def allTs (p : Trm → Bool) : List Trm → Bool
  | [] => true
  | k :: t => allT p k && allTs p t
end
theorem allT_eq (p : Trm → Bool) (t : Trm) : allT p t = (p t && allTs p t.kids) := by cases t; rw [allT]; rfl
theorem allTs_eq (p : Trm → Bool) (l : List Trm) : allTs p l = l.all (allT p) := by
  induction l with
  | nil => rw [allTs]; rfl
  | cons k t ih => rw [allTs,ih]; rfl
def formedT (t : Trm) : Bool := allT partOk t
theorem formedT_eq (t : Trm) : formedT t = (partOk t && t.kids.all formedT) := by
  show allT partOk t = _
  rw [allT_eq,allTs_eq]; rfl
def fitsT (t : Trm) : Bool := decide (sizeT t ≤ 20000 ∧ highT t ≤ 500)
def checkT (t : Trm) : Int := if fitsT t then (if formedT t then 0 else 10) else 2
def goodT (t : Trm) : Bool := fitsT t && formedT t
theorem check_ok {t : Trm} : checkT t = 0 ↔ goodT t = true := by
  unfold checkT goodT
  cases fitsT t <;> cases formedT t <;> simp
def saneT (t : Trm) : Bool := allT (fun t => decide (t.levels.length ≤ 9223372036854775807 ∧ t.kids.length ≤ 9223372036854775807)) t
theorem sane_eq (t : Trm) : saneT t = true ↔ (t.levels.length ≤ 9223372036854775807 ∧ t.kids.length ≤ 9223372036854775807) ∧ ∀ k,k ∈ t.kids → saneT k = true := by
  show allT _ t = true ↔ _
  rw [allT_eq,allTs_eq,Bool.and_eq_true,decide_eq_true_iff,List.all_eq_true]
  rfl
theorem sane_tm {t : Tm} (h : saneT t.abs = true) : (t.levels.el.length ≤ 9223372036854775807 ∧ t.kids.el.length ≤ 9223372036854775807) ∧ ∀ k,k ∈ t.kids.el → saneT k.abs = true := by
  obtain ⟨h1,h2⟩ := (sane_eq _).1 h
  rw [abs_levels,abs_kids,List.length_map,List.length_map] at h1
  rw [abs_kids] at h2
  exact ⟨h1,fun k hk => h2 _ (List.mem_map.2 ⟨k,hk,rfl⟩)⟩
theorem part_len {t : Trm} (h : partOk t = true) : kidsN t.form = (t.kids.length : Int) := by
  unfold partOk at h
  rw [Bool.and_eq_true,decide_eq_true_iff] at h
  exact h.1
theorem size_kid {t k : Tm} (h : k ∈ t.kids.el) : sizeT k.abs < sizeT t.abs := by
  have := sizeTs_mem (l := t.abs.kids) (k := k.abs) (by rw [abs_kids]; exact List.mem_map.2 ⟨k,h,rfl⟩)
  rw [sizeT_eq t.abs]
  omega
theorem high_kid {t k : Tm} (h : k ∈ t.kids.el) : highT k.abs < highT t.abs := by
  have := highTs_mem (l := t.abs.kids) (k := k.abs) (by rw [abs_kids]; exact List.mem_map.2 ⟨k,h,rfl⟩)
  rw [highT_eq t.abs]
  omega
theorem kids_size (t : Tm) : t.kids.el.length < sizeT t.abs := by
  have := sizeTs_len t.abs.kids
  rw [abs_kids,List.length_map] at this
  rw [sizeT_eq,abs_kids]
  omega
theorem formed_tm (t : Tm) : formedT t.abs = (partOk t.abs && t.kids.el.all fun k => formedT k.abs) := by
  rw [formedT_eq,abs_kids,List.all_map]; rfl
theorem part_tm (t : Tm) : partOk t.abs = (decide (kidsN t.form = (t.kids.el.length : Int)) &&
  (if t.form = 1 ∨ t.form = 11 then decide (0 ≤ t.n ∧ t.n ≤ 1073741824)
  else if t.form = 7 then decide (t.kids.el.head?.map Tm.form = some 6)
  else if t.form = 2 then decide (t.levels.el.length = 1) && t.levels.el.all (fun l => l.lev.canon)
  else if t.form = 10 then decide (t.name ≠ [] ∧ t.name.length ≤ 60) && t.levels.el.all (fun l => l.lev.canon)
  else true)) := by
  unfold partOk
  rw [abs_form,abs_n,abs_name,abs_levels,abs_kids,List.length_map,List.length_map,List.all_map]
  have : ((t.kids.el.map Tm.abs).head?.map Trm.form) = t.kids.el.head?.map Tm.form := by
    cases t.kids.el with
    | nil => rfl
    | cons k l => simp [abs_form]
  rw [this]
  rfl
end Go.Proofs.YtpbpmpabndgeeaaDoor
