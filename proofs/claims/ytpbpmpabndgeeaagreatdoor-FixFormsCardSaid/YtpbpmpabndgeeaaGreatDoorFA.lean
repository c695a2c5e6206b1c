/- The program's own errors.As at a target of the struct type wrong: its entries for internal/reflectlite. No condition. -/
import Derived.Test.YtpbpmpabndgeeaaGreatDoorA32
import Derived.Test.YtpbpmpabndgeeaaGreatDoorChecked
import Derived.KernelRfl
import Derived.WalkKit
import Derived.LaidEql
import Derived.Stop.Asserts
import Derived.RowKitTokens
set_option linter.unusedSimpArgs false
set_option linter.unusedVariables false
namespace Go.Proofs.YtpbpmpabndgeeaaGreatDoor
open Go Go.RowKit Go.Extern.Stop Go.Stop Go.Extern

theorem fa_valueOf (t : Addr) (w : World) : (ReflectliteValue.unpack (.iface 100 (.pointer (some t)))).run Tryz.prog w
    = .ok (.agg #[.pointer (some ⟨1,100,none⟩),.pointer (some ⟨w.heap.size,0,none⟩),.int .u64 150]) (w.alloc (.cells #[.pointer (some t)] 100)) := by kernel_rfl
theorem fa_valueOfE (x y : Int) (w : World) : (ReflectliteValue.unpack (.iface 98 (.agg #[.int .i64 x,.int .i64 y]))).run Tryz.prog w
    = .ok (.agg #[.pointer (some ⟨1,98,none⟩),.pointer (some ⟨w.heap.size,0,none⟩),.int .u64 153]) (w.alloc (.cells #[.int .i64 x,.int .i64 y] 98)) := by kernel_rfl
theorem fa_type (a : Addr) (w : World) : (ReflectliteValue.methodAny (ReflectliteValue.valueError "reflectlite.Value.Type" 0) (fun t _ _ _ => ReflectliteType.toType t) #[.agg #[.pointer (some ⟨1,100,none⟩),.pointer (some a),.int .u64 150]]).run Tryz.prog w
    = .ok (.iface 144 (.agg #[.pointer (some ⟨1,100,none⟩)])) w := by kernel_rfl
theorem fa_kindP (w : World) : ((ReflectliteType.abiMethod fun t => (fun a : Nat => Value.int IntKind.u8 (a : Int)) <$> Rtype.kind t) #[.pointer (some ⟨1,100,none⟩)]).run Tryz.prog w = .ok (.int .u8 22) w := by kernel_rfl
theorem fa_kindE (w : World) : ((ReflectliteType.abiMethod fun t => (fun a : Nat => Value.int IntKind.u8 (a : Int)) <$> Rtype.kind t) #[.pointer (some ⟨1,98,none⟩)]).run Tryz.prog w = .ok (.int .u8 25) w := by kernel_rfl
theorem fa_elem (w : World) : (ReflectliteType.method ReflectliteType.elem #[.agg #[.pointer (some ⟨1,100,none⟩)]]).run Tryz.prog w = .ok (.iface 144 (.agg #[.pointer (some ⟨1,98,none⟩)])) w := by kernel_rfl
theorem fa_impl (w : World) : (ReflectliteType.relation "Implements" ReflectliteType.implements_ #[.agg #[.pointer (some ⟨1,98,none⟩)],.iface 144 (.agg #[.pointer (some ⟨1,57,none⟩)])]).run Tryz.prog w = .ok (.bool true) w := by kernel_rfl
theorem fa_typeOf (v : Value) (w : World) : (ReflectliteType.typeOf #[.iface 98 v]).run Tryz.prog w = .ok (.iface 144 (.agg #[.pointer (some ⟨1,98,none⟩)])) w := by kernel_rfl
theorem fa_assign (w : World) : (ReflectliteType.relation "AssignableTo" ReflectliteType.assignableTo #[.agg #[.pointer (some ⟨1,98,none⟩)],.iface 144 (.agg #[.pointer (some ⟨1,98,none⟩)])]).run Tryz.prog w = .ok (.bool true) w := by kernel_rfl
theorem fa_size : Tryz.prog.types.size + Made.depth = 304 := by kernel_rfl
theorem fa_mKind (h : Value) (w : World) : (Go.method (Tryz.prog.types.size + Made.depth) 144 (.agg #[h]) "Kind").run Tryz.prog w = .ok (116,h) w := by kernel_rfl
theorem fa_mElem (h : Value) (w : World) : (Go.method (Tryz.prog.types.size + Made.depth) 144 (.agg #[h]) "Elem").run Tryz.prog w = .ok (126,.agg #[h]) w := by kernel_rfl
theorem fa_mImpl (h : Value) (w : World) : (Go.method (Tryz.prog.types.size + Made.depth) 144 (.agg #[h]) "Implements").run Tryz.prog w = .ok (127,.agg #[h]) w := by kernel_rfl
theorem fa_mAssign (h : Value) (w : World) : (Go.method (Tryz.prog.types.size + Made.depth) 144 (.agg #[h]) "AssignableTo").run Tryz.prog w = .ok (124,.agg #[h]) w := by kernel_rfl
theorem fa_parts (a : Addr) (w : World) : (ReflectliteValue.parts (.agg #[.pointer (some ⟨1,100,none⟩),.pointer (some a),.int .u64 150])).run Tryz.prog w = .ok (some (100,a,150)) w := by kernel_rfl
theorem fa_partsE (a : Addr) (w : World) : (ReflectliteValue.parts (.agg #[.pointer (some ⟨1,98,none⟩),.pointer (some a),.int .u64 153])).run Tryz.prog w = .ok (some (98,a,153)) w := by kernel_rfl
theorem fa_partsA (a : Addr) (w : World) : (ReflectliteValue.parts (.agg #[.pointer (some ⟨1,98,none⟩),.pointer (some a),.int .u64 409])).run Tryz.prog w = .ok (some (98,a,409)) w := by kernel_rfl
theorem fa_elemOf (w : World) : (Rtype.elem? 100).run Tryz.prog w = .ok (some 98) w := by kernel_rfl
theorem fa_mk (p : Addr) (w : World) : (ReflectliteValue.mk 98 p ReflectliteValue.flagAddr).run Tryz.prog w = .ok (.agg #[.pointer (some ⟨1,98,none⟩),.pointer (some p),.int .u64 409]) w := by kernel_rfl
theorem fa_direct (w : World) : (Rtype.directlyAssignable 98 98).run Tryz.prog w = .ok true w := by kernel_rfl

theorem fa_rlm (z : Sem Value) (f : TypeId → Addr → Nat → Nat → Sem Value) (v : Value) :
    ReflectliteValue.method z f #[v] = (do match ← ReflectliteValue.parts v with | none => z | some (t,a,fl) => f t a fl (fl % 32)) := rfl
theorem fa_isNil (a p : Addr) (W : World) (ha : W.cell? a = some (.pointer (some p))) :
    (ReflectliteValue.method (ReflectliteValue.valueError "reflectlite.Value.IsNil" 0) ReflectliteValue.isNil #[.agg #[.pointer (some ⟨1,100,none⟩),.pointer (some a),.int .u64 150]]).run Tryz.prog W = .ok (.bool false) W := by
  have hu : Tryz.prog.underlying 100 = some (.pointer 98) := by kernel_rfl
  rw [fa_rlm]
  simp only [Sem.run_bind,fa_parts,Result.andThen]
  simp [ReflectliteValue.isNil,loadVar,isAgg,underlying,hu,ha,Result.andThen]
theorem fa_elemV (a p : Addr) (W : World) (ha : W.cell? a = some (.pointer (some p))) :
    (ReflectliteValue.method (ReflectliteValue.valueError "reflectlite.Value.Elem" 0) ReflectliteValue.elem #[.agg #[.pointer (some ⟨1,100,none⟩),.pointer (some a),.int .u64 150]]).run Tryz.prog W
      = .ok (.agg #[.pointer (some ⟨1,98,none⟩),.pointer (some p),.int .u64 409]) W := by
  have hu : Tryz.prog.underlying 100 = some (.pointer 98) := by kernel_rfl
  rw [fa_rlm]
  simp only [Sem.run_bind,fa_parts,Result.andThen]
  simp [ReflectliteValue.elem,loadVar,isAgg,underlying,hu,ha,Result.andThen,fa_elemOf,fa_mk]
theorem fa_rls (v x : Value) : ReflectliteValue.set #[v,x] = (do
    let (some (dst,a,fl),some (src,b,_)) := (← ReflectliteValue.parts v,← ReflectliteValue.parts x)
      | unsupported (.noEntry "extern/(internal/reflectlite.Value).Set.zeroValue")
    if fl / ReflectliteValue.flagAddr % 2 == 0 then unsupported (.noEntry "extern/(internal/reflectlite.Value).Set.unaddressable")
    let val ← loadVar src b
    if ← Rtype.directlyAssignable dst src then storeVar dst a val
    else if ← Rtype.implements dst src then
      if (← Rtype.kind src) == 20 then
        match val with
        | .nilIface => unsupported (.noEntry "extern/reflectlite: a nil value of one interface type handed on as a value of another")
        | _ => storeVar dst a val
      else storeVar dst a (.iface src val)
    else panicString ("reflectlite.Set: value of type " ++ (← Rtype.spelt src) ++ " is not assignable to type " ++ (← Rtype.spelt dst))
    pure (.tuple #[])) := rfl
theorem fa_load (x y : Int) (b : Addr) (W : World) (h0 : W.cell? (b.add 0) = some (.int .i64 x)) (h1 : W.cell? (b.add 1) = some (.int .i64 y)) : (loadVar 98 b).run Tryz.prog W = .ok (.agg #[.int .i64 x,.int .i64 y]) W := by
  have hs : (sizeOf 98).run Tryz.prog W = .ok 2 W := by kernel_rfl
  have ha : (isAgg 98).run Tryz.prog W = .ok true W := by kernel_rfl
  have hl := run_loadCells_list (P := Tryz.prog) (w := W) b [.int .i64 x,.int .i64 y] (fun j v hj => by
    match j,hj with
    | 0,hj => cases hj; exact h0
    | 1,hj => cases hj; exact h1)
  unfold loadVar
  simp only [Sem.run_bind,ha,Result.andThen_ok,if_true,hs,Sem.run_pure]
  rw [show (2 : Nat) = [Value.int .i64 x,.int .i64 y].length from rfl,hl]
  rfl
theorem fa_set (ta b : Addr) (x y : Int) (W w2 : World) (h0 : W.cell? (b.add 0) = some (.int .i64 x)) (h1 : W.cell? (b.add 1) = some (.int .i64 y)) (hst : (storeVar 98 ta (.agg #[.int .i64 x,.int .i64 y])).run Tryz.prog W = .ok () w2) :
    (ReflectliteValue.set #[.agg #[.pointer (some ⟨1,98,none⟩),.pointer (some ta),.int .u64 409],.agg #[.pointer (some ⟨1,98,none⟩),.pointer (some b),.int .u64 153]]).run Tryz.prog W = .ok (.tuple #[]) w2 := by
  rw [fa_rls]
  simp only [Sem.run_bind,fa_partsA,fa_partsE,Result.andThen]
  simp [ReflectliteValue.flagAddr,fa_load x y b W h0 h1,Result.andThen,fa_direct,hst]
theorem fa_nil (t : Value) (w : World) : Calls Tryz.prog 37 #[.nilIface,t] w fun e w' => e = .returned (.bool false) ∧ w' = w := by
  go_enter Tryz.func37,Tryz.ntmps37
  go_wp2
  go_ret
  exact ⟨rfl,rfl⟩
end Go.Proofs.YtpbpmpabndgeeaaGreatDoor
