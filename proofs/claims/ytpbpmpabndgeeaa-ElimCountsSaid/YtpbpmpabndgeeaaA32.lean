/- Arguments, one by one. No condition. -/
import Derived.Test.YtpbpmpabndgeeaaA30

/- Tables of functions: a closed run by a table. No condition. -/
set_option linter.unusedSimpArgs false
set_option linter.unusedVariables false
namespace Go.Proofs.Ytpbpmpabndgeeaa
open Go

inductive Tb where
  | lf
  | nd (l:Tb) (k:Nat) (v:DFn) (r:Tb)
noncomputable def Tb.look (t:Tb) (F:Nat→DFn) (k:Nat):DFn :=
  Tb.rec (motive:=fun _=>DFn) (F k) (fun _ j v _ il ir=>Bool.rec (motive:=fun _=>DFn) (Bool.rec (motive:=fun _=>DFn) ir il (Nat.blt k j)) v (Nat.beq k j)) t
def Tb.Ok (F:Nat→DFn):Tb→Prop
  | .lf=>True
  | .nd l k v r=>l.Ok F∧F k=v∧r.Ok F
def isB (b:Bool):Rd→Bool
  | .ok (.bool t) _ _=>eqB b t
  | _=>false
end Go.Proofs.Ytpbpmpabndgeeaa

/- Arguments,one by one. No condition. -/
namespace Go.Proofs.Ytpbpmpabndgeeaa
open Go

section
variable {H:Type} {P:Program}
theorem args_nil {ds:List (DataW H)} {l:List D} (h:ArgsAre P [] ds l):ds=[]∧l=[]:=by
  cases ds <;> cases l <;> first | exact ⟨rfl,rfl⟩ | exact h.elim
theorem args_cons {t:TypeId} {ts:List TypeId} {ds:List (DataW H)} {l:List D} (h:ArgsAre P (t::ts) ds l):∃ x xs f l',ds=x::xs∧l=dVal P f t x::l'∧Fit P f t x∧ArgsAre P ts xs l':=by
  cases ds with
  | nil=>cases l <;> exact h.elim
  | cons x xs =>
    cases l with
    | nil=>exact h.elim
    | cons d l =>
      obtain ⟨⟨f,rfl,h2⟩,h3⟩:=h
      exact ⟨x,xs,f,l,rfl,rfl,h2,h3⟩
theorem args_one {t:TypeId} {ds:List (DataW H)} {l:List D} (h:ArgsAre P [t] ds l):∃ (x:DataW H) (f:Nat),l=[dVal P f t x]∧Fit P f t x:=by
  obtain ⟨x,xs,f,l',rfl,rfl,h1,h2⟩:=args_cons h
  obtain ⟨rfl,rfl⟩:=args_nil h2
  exact ⟨x,f,rfl,h1⟩
theorem args_two {t u:TypeId} {ds:List (DataW H)} {l:List D} (h:ArgsAre P [t,u] ds l):∃ (x y:DataW H) (f g:Nat),l=[dVal P f t x,dVal P g u y]∧Fit P f t x∧Fit P g u y:=by
  obtain ⟨x,xs,f,l',rfl,rfl,h1,h2⟩:=args_cons h
  obtain ⟨y,g,rfl,h3⟩:=args_one h2
  exact ⟨x,y,f,g,rfl,h1,h3⟩
theorem args_three {t u s:TypeId} {ds:List (DataW H)} {l:List D} (h:ArgsAre P [t,u,s] ds l):∃ (x y z:DataW H) (f g k:Nat),l=[dVal P f t x,dVal P g u y,dVal P k s z]∧Fit P f t x∧Fit P g u y∧Fit P k s z:=by
  obtain ⟨x,xs,f,l',rfl,rfl,h1,h2⟩:=args_cons h
  obtain ⟨y,z,g,k,rfl,h3,h4⟩:=args_two h2
  exact ⟨x,y,z,f,g,k,rfl,h1,h3,h4⟩
theorem args_four {t u s r:TypeId} {ds:List (DataW H)} {l:List D} (h:ArgsAre P [t,u,s,r] ds l):∃ (x y z o:DataW H) (f g k j:Nat),l=[dVal P f t x,dVal P g u y,dVal P k s z,dVal P j r o]∧Fit P f t x∧Fit P g u y∧Fit P k s z∧Fit P j r o:=by
  obtain ⟨x,xs,f,l',rfl,rfl,h1,h2⟩:=args_cons h
  obtain ⟨y,z,o,g,k,j,rfl,h3,h4,h5⟩:=args_three h2
  exact ⟨x,y,z,o,f,g,k,j,rfl,h1,h3,h4,h5⟩
theorem int_arg {t:TypeId} {k:IntKind} (hu:P.underlying t=some (.int k)) {f:Nat} {x:DataW H} (h:Fit P f t x):∃ n,dVal P f t x = .int k n∧k.min≤n∧n≤k.max:=by
  cases f with
  | zero=>cases h
  | succ f =>
    simp only [Fit,hu] at h
    obtain ⟨n,rfl,h1⟩:=h
    exact ⟨n,by simp only [dVal,hu],h1⟩
end
end Go.Proofs.Ytpbpmpabndgeeaa
