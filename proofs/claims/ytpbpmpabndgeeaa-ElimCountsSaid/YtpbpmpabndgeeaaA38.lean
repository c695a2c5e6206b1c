/- Arguments of struct and slice types, as Lean's data; their bulk. No condition. -/
import Derived.Test.YtpbpmpabndgeeaaA37
import Derived.Test.YtpbpmpabndgeeaaRows
import Derived.WalkKit
import Derived.ProofKit
import Derived.JoinedCond
import Derived.OpenShut
set_option linter.unusedSimpArgs false
set_option linter.unusedVariables false
namespace Go.Proofs.Ytpbpmpabndgeeaa
open Go

inductive All2 {α β:Type} (R:α→β→Prop):List α→List β→Prop where
  | nil:All2 R [] []
  | cons {a:α} {b:β} {l:List α} {m:List β}:R a b→All2 R l m→All2 R (a::l) (b::m)

section
variable {H:Type} {P:Program}

theorem All2.len {α β:Type} {R:α→β→Prop} {l:List α} {m:List β} (h:All2 R l m):l.length=m.length:=by
  induction h with
  | nil=>rfl
  | cons _ _ ih=>rw [List.length_cons,List.length_cons,ih]
open Classical in
end

theorem own:ownKnob Try.prog.godebug=none:=by kernel_rfl
theorem laidOut:laidOutB Try.prog=true:=by kernel_rfl
theorem rowed_maps:mapsRowed Try.prog=true:=by kernel_rfl
theorem mixed:Try.prog.follows .mixedOrders=true:=by kernel_rfl
theorem full_slices : ((List.range Try.prog.types.size).all fun t=>match Try.prog.underlying t with | some (.slice e)=>decide (0 < Try.prog.cellsOf e) | _=>true)=true:=by kernel_rfl
end Go.Proofs.Ytpbpmpabndgeeaa
