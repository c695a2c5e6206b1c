/- errors.As at an error of the struct type wrong and a pointer to a variable of that type. No condition. -/
import Derived.Test.YtpbpmpabndgeeaaGreatDoorFA
set_option linter.unusedSimpArgs false
set_option linter.unusedVariables false
namespace Go.Proofs.YtpbpmpabndgeeaaGreatDoor
open Go Go.RowKit Go.Extern.Stop Go.Stop Go.Extern

def fw (w : World) (x y : Int) (t : Addr) : World :=
  (((w.alloc (.cells #[.pointer (some t)] 100)).alloc (.cells #[.pointer (some ⟨1,100,none⟩),.pointer (some ⟨w.heap.size,0,none⟩),.int .u64 150] 129)).alloc (.cells #[.pointer (some ⟨1,100,none⟩),.pointer (some ⟨w.heap.size,0,none⟩),.int .u64 150] 129)).alloc (.cells #[.int .i64 x,.int .i64 y] 98)

set_option maxHeartbeats 4000000 in
theorem fb_hit (x y : Int) (t : Addr) (w w2 : World) (hg : w.cell? ⟨0,0,none⟩ = some (.iface 144 (.agg #[.pointer (some ⟨1,57,none⟩)]))) (hst : (storeVar 98 t (.agg #[.int .i64 x,.int .i64 y])).run Tryz.prog (fw w x y t) = .ok () w2) :
    Calls Tryz.prog 37 #[.iface 98 (.agg #[.int .i64 x,.int .i64 y]),.iface 100 (.pointer (some t))] w fun ev w' => ev = .returned (.bool true) ∧ w' = w2 := by
  have h6 := @run_callFunc_extern Tryz.prog 68 _ (fun args => ReflectliteValue.unpack (args.getD 0 (.tuple #[]))) Tryz.func68 (by kernel_rfl) (by kernel_rfl) (by kernel_rfl) (by kernel_rfl)
  have h7 := @run_callFunc_extern Tryz.prog 69 _ (ReflectliteValue.methodAny (ReflectliteValue.valueError "reflectlite.Value.Type" 0) (fun t _ _ _ => ReflectliteType.toType t)) Tryz.func69 (by kernel_rfl) (by kernel_rfl) (by kernel_rfl) (by kernel_rfl)
  have h8 := @run_callFunc_extern Tryz.prog 70 _ (ReflectliteValue.method (ReflectliteValue.valueError "reflectlite.Value.IsNil" 0) ReflectliteValue.isNil) Tryz.func70 (by kernel_rfl) (by kernel_rfl) (by kernel_rfl) (by kernel_rfl)
  have h27 := @run_callFunc_extern Tryz.prog 116 _ (ReflectliteType.abiMethod fun t => do pure (.int .u8 (← Rtype.kind t))) Tryz.func116 (by kernel_rfl) (by kernel_rfl) (by kernel_rfl) (by kernel_rfl)
  have h37 := @run_callFunc_extern Tryz.prog 126 _ (ReflectliteType.method ReflectliteType.elem) Tryz.func126 (by kernel_rfl) (by kernel_rfl) (by kernel_rfl) (by kernel_rfl)
  have h38 := @run_callFunc_extern Tryz.prog 127 _ (ReflectliteType.relation "Implements" ReflectliteType.implements_) Tryz.func127 (by kernel_rfl) (by kernel_rfl) (by kernel_rfl) (by kernel_rfl)
  have h10 := @run_callFunc_extern Tryz.prog 81 _ ReflectliteType.typeOf Tryz.func81 (by kernel_rfl) (by kernel_rfl) (by kernel_rfl) (by kernel_rfl)
  have h35 := @run_callFunc_extern Tryz.prog 124 _ (ReflectliteType.relation "AssignableTo" ReflectliteType.assignableTo) Tryz.func124 (by kernel_rfl) (by kernel_rfl) (by kernel_rfl) (by kernel_rfl)
  have h11 := @run_callFunc_extern Tryz.prog 82 _ (ReflectliteValue.method (ReflectliteValue.valueError "reflectlite.Value.Elem" 0) ReflectliteValue.elem) Tryz.func82 (by kernel_rfl) (by kernel_rfl) (by kernel_rfl) (by kernel_rfl)
  have h12 := @run_callFunc_extern Tryz.prog 83 _ ReflectliteValue.set Tryz.func83 (by kernel_rfl) (by kernel_rfl) (by kernel_rfl) (by kernel_rfl)
  have tO := fa_typeOf
  have mA := fa_mAssign
  have a25 := fa_assign
  have v25 := fa_valueOfE
  have f6 := fa_valueOf
  have f7 := fa_type
  have mK := fa_mKind
  have mE := fa_mElem
  have mI := fa_mImpl
  rw [fa_size] at mA mK mE mI
  have k27 := fa_kindP
  have k25 := fa_kindE
  have e27 := fa_elem
  have i25 := fa_impl
  have n8 := fa_isNil ⟨w.heap.size,0,none⟩ t ((w.alloc (.cells #[.pointer (some t)] 100)).alloc (.cells #[.pointer (some ⟨1,100,none⟩),.pointer (some ⟨w.heap.size,0,none⟩),.int .u64 150] 129)) (by simp)
  have hlt : 0 < w.heap.size := by
    rcases Nat.eq_zero_or_pos w.heap.size with h0 | h
    · simp [World.cell?,h0] at hg
    · exact h
  have hg2 : ((w.alloc (.cells #[.pointer (some t)] 100)).alloc (.cells #[.pointer (some ⟨1,100,none⟩),.pointer (some ⟨w.heap.size,0,none⟩),.int .u64 150] 129)).cell? ⟨0,0,none⟩ = some (.iface 144 (.agg #[.pointer (some ⟨1,57,none⟩)])) := by
    rw [World.cell?_alloc_lt _ _ ⟨0,0,none⟩ (by simp),World.cell?_alloc_lt _ _ ⟨0,0,none⟩ hlt]; exact hg
  have el := fa_elemV ⟨w.heap.size,0,none⟩ t (((w.alloc (.cells #[.pointer (some t)] 100)).alloc (.cells #[.pointer (some ⟨1,100,none⟩),.pointer (some ⟨w.heap.size,0,none⟩),.int .u64 150] 129)).alloc (.cells #[.pointer (some ⟨1,100,none⟩),.pointer (some ⟨w.heap.size,0,none⟩),.int .u64 150] 129)) (by rw [World.cell?_alloc_lt _ _ ⟨w.heap.size,0,none⟩ (by simp; omega)]; simp)
  have st := fa_set t ⟨w.heap.size + 1 + 1 + 1,0,none⟩ x y (fw w x y t) w2
    (by unfold fw; show (World.alloc _ _).cell? ⟨w.heap.size + 1 + 1 + 1,0,none⟩ = _; rw [World.cell?_alloc_at _ _ _ _ (by simp)]; rfl)
    (by unfold fw; show (World.alloc _ _).cell? ⟨w.heap.size + 1 + 1 + 1,1,none⟩ = _; rw [World.cell?_alloc_at _ _ _ _ (by simp)]; rfl) hst
  unfold fw at st
  go_enter Tryz.func37,Tryz.ntmps37
  go_wp2
  refine wp_loop_rounds 1 ?_
  rw [rounds_succ]
  go_wp2
  go_ret
  exact ⟨rfl,rfl⟩

theorem alloc_old (w : World) (o : Obj) {b : Nat} (hb : b < w.heap.size) : (w.alloc o).heap[b]? = w.heap[b]? ∧ b < (w.alloc o).heap.size := by
  refine ⟨?_,by show b < (w.heap.push o).size; rw [Array.size_push]; omega⟩
  show (w.heap.push o)[b]? = _
  rw [Array.getElem?_push,if_neg (Nat.ne_of_lt hb)]
theorem as_prog : AsOk Tryz.prog := by
  refine ⟨⟨Tryz.f37,_,Tryz.func37,rfl,by decide +kernel⟩,?_,fun t w => fa_nil t w,fun w x y a hg ha => ?_⟩
  · have h : (Tryz.prog.info? tW).map (·.size) = some 2 := by kernel_rfl
    cases hi : Tryz.prog.info? tW with
    | none => rw [hi] at h; cases h
    | some ti => rw [hi] at h; exact ⟨ti,rfl,by simpa using h⟩
  · refine ⟨fw w x y a,rfl,rfl,rfl,by show w.heap.size ≤ ((((w.heap.push _).push _).push _).push _).size; simp only [Array.size_push]; omega,fun b hb => ?_,fun w2 h2 => fb_hit x y a w w2 hg h2⟩
    unfold fw
    have h1 := alloc_old w (.cells #[.pointer (some a)] 100) hb
    have h2 := alloc_old _ (.cells #[.pointer (some ⟨1,100,none⟩),.pointer (some ⟨w.heap.size,0,none⟩),.int .u64 150] 129) h1.2
    have h3 := alloc_old _ (.cells #[.pointer (some ⟨1,100,none⟩),.pointer (some ⟨w.heap.size,0,none⟩),.int .u64 150] 129) h2.2
    have h4 := alloc_old _ (.cells #[.int .i64 x,.int .i64 y] 98) h3.2
    exact h4.1.trans (h3.1.trans (h2.1.trans h1.1))
end Go.Proofs.YtpbpmpabndgeeaaGreatDoor
