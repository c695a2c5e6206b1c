/- Arguments of struct and slice types, as Lean's data; their bulk. No condition. -/
import Derived.Test.YtpbpmpabndgeeaaDoorA37
import Derived.Test.YtpbpmpabndgeeaaDoorRows
import Derived.WalkKit
import Derived.ProofKit
import Derived.JoinedCond
import Derived.OpenShut
set_option linter.unusedSimpArgs false
set_option linter.unusedVariables false
namespace Go.Proofs.YtpbpmpabndgeeaaDoor
open Go

inductive All2 {α β : Type} (R : α → β → Prop) : List α → List β → Prop where
  | nil : All2 R [] []
  | cons {a : α} {b : β} {l : List α} {m : List β} : R a b → All2 R l m → All2 R (a :: l) (b :: m)

section
variable {H : Type} {P : Program}

theorem list_arg {α : Type} {enc : α → D} {v : DataW H → D} {R : α → DataW H → Prop} : ∀ {l : List (DataW H)},(∀ y,y ∈ l → ∃ a,v y = enc a ∧ R a y) → ∃ us,l.map v = us.map enc ∧ All2 R us l
  | [],_ => ⟨[],rfl,.nil⟩
  | y :: t,h => by
    obtain ⟨a,h1,h2⟩ := h y (by simp)
    obtain ⟨us,h3,h4⟩ := list_arg (l := t) (fun z hz => h z (by simp [hz]))
    exact ⟨a :: us,by rw [List.map_cons,List.map_cons,h1,h3],.cons h2 h4⟩

theorem slice_arg {α : Type} {enc : α → D} {t e k : Nat} {R : α → DataW H → Prop} (hu : P.underlying t = some (.slice e)) (hk : P.cellsOf e = k) {f : Nat} {x : DataW H} (h : Fit P f t x)
    (he : ∀ g y,f = g + 1 → Fit P g e y → ∃ a,dVal P g e y = enc a ∧ R a y) :
    ∃ s : Sl α,dVal P f t x = slD k enc s ∧ s.el.length + s.sp.length ≤ maxLen ∧ ((x = .nil ∧ s.el = [] ∧ s.sp = []) ∨ ∃ es sp,x = .slice es sp ∧ All2 R s.el es ∧ All2 R s.sp sp) := by
  cases f with
  | zero => cases h
  | succ g =>
    simp only [Fit,hu] at h
    rcases h with rfl | ⟨es,sp,rfl,h1,h2⟩
    · exact ⟨⟨true,true,[],[]⟩,by simp only [dVal,hu]; rfl,Nat.zero_le _,.inl ⟨rfl,rfl,rfl⟩⟩
    · obtain ⟨us,h3,h4⟩ := list_arg (v := dVal P g e) (enc := enc) (R := R) (l := es) (fun y hy => he g y rfl (h2 y (by simp [hy])))
      obtain ⟨bs,h5,h6⟩ := list_arg (v := dVal P g e) (enc := enc) (R := R) (l := sp) (fun y hy => he g y rfl (h2 y (by simp [hy])))
      refine ⟨⟨false,sp.isEmpty,us,bs⟩,?_,?_,.inr ⟨es,sp,rfl,h4,h6⟩⟩
      · simp only [dVal,hu]
        rw [h3,h5,hk]
        rfl
      · have e1 : us.length = es.length := by have := congrArg List.length h3; simpa using this.symm
        have e2 : bs.length = sp.length := by have := congrArg List.length h5; simpa using this.symm
        show us.length + bs.length ≤ maxLen
        omega
theorem str_arg {t : Nat} (hu : P.underlying t = some .string) {f : Nat} {x : DataW H} (h : Fit P f t x) : ∃ l : List UInt8,x = .lit (.string l) ∧ dVal P f t x = .str (l.map UInt8.toNat) ∧ l.length ≤ maxLen := by
  cases f with
  | zero => cases h
  | succ f =>
    simp only [Fit,hu] at h
    obtain ⟨l,rfl,h1⟩ := h
    exact ⟨l,rfl,by simp only [dVal,hu],h1⟩
theorem struct2 {t : Nat} {a b : Field} (hu : P.underlying t = some (.struct #[a,b])) {f : Nat} {x : DataW H} (h : Fit P f t x) :
    ∃ g y z,f = g + 1 ∧ x = .agg [y,z] ∧ Fit P g a.type y ∧ Fit P g b.type z ∧ dVal P f t x = .agg (cells (dVal P g a.type y) ++ cells (dVal P g b.type z)) := by
  cases f with
  | zero => cases h
  | succ g =>
    simp only [Fit,hu] at h
    obtain ⟨ps,rfl,h1,h2⟩ := h
    match ps,h1 with
    | [y,z],_ =>
      refine ⟨g,y,z,rfl,rfl,h2 (a,y) (by simp),h2 (b,z) (by simp),?_⟩
      simp only [dVal,hu]
      simp
theorem struct3 {t : Nat} {a b c : Field} (hu : P.underlying t = some (.struct #[a,b,c])) {f : Nat} {x : DataW H} (h : Fit P f t x) :
    ∃ g y z w,f = g + 1 ∧ x = .agg [y,z,w] ∧ Fit P g a.type y ∧ Fit P g b.type z ∧ Fit P g c.type w ∧ dVal P f t x = .agg (cells (dVal P g a.type y) ++ (cells (dVal P g b.type z) ++ cells (dVal P g c.type w))) := by
  cases f with
  | zero => cases h
  | succ g =>
    simp only [Fit,hu] at h
    obtain ⟨ps,rfl,h1,h2⟩ := h
    match ps,h1 with
    | [y,z,w],_ =>
      refine ⟨g,y,z,w,rfl,rfl,h2 (a,y) (by simp),h2 (b,z) (by simp),h2 (c,w) (by simp),?_⟩
      simp only [dVal,hu]
      simp
theorem cells_int {q : IntKind} {a : Int} : cells (.int q a) = [.int q a] := rfl
theorem cells_str {a : List Nat} : cells (.str a) = [.str a] := rfl
theorem cells_bool {a : Bool} : cells (.bool a) = [.bool a] := rfl
theorem cells_slD {α : Type} {enc : α → D} {k : Nat} {s : Sl α} : cells (slD k enc s) = [slD k enc s] := by
  rcases slD_isSl k enc s with ⟨h1,_⟩ | ⟨_,_,h1⟩ <;> rw [h1] <;> rfl

theorem bulk_one (d : DataW H) : 1 ≤ Rows.uptoBulk d := by
  cases d with
  | lit l => cases l <;> simp [Rows.uptoBulk]
  | _ => simp [Rows.uptoBulk]
theorem bulk_app (l r : List (DataW H)) : Rows.uptoBulkAll (l ++ r) = Rows.uptoBulkAll l + Rows.uptoBulkAll r := by
  induction l with
  | nil => simp [Rows.uptoBulkAll]
  | cons x l ih => simp only [List.cons_append,Rows.uptoBulkAll,ih]; omega
theorem bulk_mem {d : DataW H} {l : List (DataW H)} (h : d ∈ l) : Rows.uptoBulk d ≤ Rows.uptoBulkAll l := by
  induction l with
  | nil => cases h
  | cons x r ih =>
    simp only [Rows.uptoBulkAll]
    rcases List.mem_cons.1 h with e | e
    · subst e; omega
    · have := ih e; omega
theorem bulk_len (l : List (DataW H)) : l.length ≤ Rows.uptoBulkAll l := by
  induction l with
  | nil => simp
  | cons x r ih => simp only [Rows.uptoBulkAll,List.length_cons]; have := bulk_one x; omega
theorem bulk_slice (es sp : List (DataW H)) : Rows.uptoBulk (.slice es sp) = Rows.uptoBulkAll es + Rows.uptoBulkAll sp + 1 := by simp only [Rows.uptoBulk]
theorem bulk_agg (ps : List (DataW H)) : Rows.uptoBulk (.agg ps) = Rows.uptoBulkAll ps + 1 := by simp only [Rows.uptoBulk]
theorem bulk_cons (x : DataW H) (l : List (DataW H)) : Rows.uptoBulkAll (x :: l) = Rows.uptoBulk x + Rows.uptoBulkAll l := by simp only [Rows.uptoBulkAll]
theorem bulk_nil : Rows.uptoBulkAll ([] : List (DataW H)) = 0 := by simp only [Rows.uptoBulkAll]
theorem All2.len {α β : Type} {R : α → β → Prop} {l : List α} {m : List β} (h : All2 R l m) : l.length = m.length := by
  induction h with
  | nil => rfl
  | cons _ _ ih => rw [List.length_cons,List.length_cons,ih]
theorem All2.mem {α β : Type} {R : α → β → Prop} {l : List α} {m : List β} (h : All2 R l m) : ∀ a,a ∈ l → ∃ b,b ∈ m ∧ R a b := by
  induction h with
  | nil => intro a ha; cases ha
  | cons h1 _ ih =>
    intro a ha
    rcases List.mem_cons.1 ha with rfl | ha
    · exact ⟨_,by simp,h1⟩
    · obtain ⟨b,h2,h3⟩ := ih a ha; exact ⟨b,by simp [h2],h3⟩
open Classical in
theorem skol {F : Nat → DFn} {c : DCode} {h h' : Hps} {x : Ex} {P : Tr → Nat → Prop} {Q : Tr → Nat → Tr → Nat → Prop} (k : ∀ e n,P e n → ∃ e2 n2,LX F c e n h = .ok x e2 n2 h' ∧ Q e n e2 n2) :
    ∃ (E : Tr → Nat → Tr) (N : Tr → Nat → Nat),∀ e n,P e n → LX F c e n h = .ok x (E e n) (N e n) h' ∧ Q e n (E e n) (N e n) := by
  refine ⟨fun e n => if hp : P e n then Classical.choose (k e n hp) else e,fun e n => if hp : P e n then Classical.choose (Classical.choose_spec (k e n hp)) else n,fun e n hp => ?_⟩
  simp only [dif_pos hp]
  exact Classical.choose_spec (Classical.choose_spec (k e n hp))
end

theorem own : ownKnob Tryd.prog.godebug = none := by kernel_rfl
theorem laidOut : laidOutB Tryd.prog = true := by kernel_rfl
theorem rowed_maps : mapsRowed Tryd.prog = true := by kernel_rfl
theorem mixed : Tryd.prog.follows .mixedOrders = true := by kernel_rfl
theorem full_slices : ((List.range Tryd.prog.types.size).all fun t => match Tryd.prog.underlying t with | some (.slice e) => decide (0 < Tryd.prog.cellsOf e) | _ => true) = true := by kernel_rfl
end Go.Proofs.YtpbpmpabndgeeaaDoor
