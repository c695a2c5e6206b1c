/- The program's copyCheck and String of strings.Builder, at a builder that is the first part of a printer. No condition. -/
import Derived.Test.YtpbpmpabndgeeaaDoorA32
import Derived.Test.YtpbpmpabndgeeaaDoorChecked
import Derived.KernelRfl
import Derived.WalkKit
import Derived.Lib.Walk
import Derived.Lib.Builder
import Derived.Lib.UnsafeStr
import Derived.Laws.Externs
import Derived.Shelf.RegionOpenPlain
import Derived.RowKitTokens
set_option linter.unusedSimpArgs false
set_option linter.unusedVariables false
namespace Go.Proofs.YtpbpmpabndgeeaaDoor
open Go Go.RowKit
set_option maxRecDepth 100000

theorem ba_bp : Tryd.prog.underlying 41 = some (.pointer 43) := by kernel_rfl
theorem ba_up : Tryd.prog.underlying 91 = some .unsafePointer := by kernel_rfl
theorem ba_u8p : Tryd.prog.underlying 57 = some (.pointer 5) := by kernel_rfl
theorem ba_bi : (Tryd.prog.info? 43).map (·.size) = some 2 := by kernel_rfl
theorem ba_bpi : (Tryd.prog.info? 41).map (·.size) = some 1 := by kernel_rfl
theorem ba_c8 : Tryd.prog.cellsOf 5 = 1 := by kernel_rfl
theorem ba_lies : liesAt Tryd.prog Tryd.prog.depth 45 (2 / Tryd.prog.cellsOf 45) 0 43 1 = true := by kernel_rfl
theorem ba_cell {w : World} {b : Nat} {c : Array Value} {T : TypeId} (h : w.heap[b]? = some (.cells c T (0,0))) {i : Nat} (hi : i < c.size) {v : Value} (hv : c.getD i undef = v) : w.cell? ⟨b,i,none⟩ = some v := by
  rw [← hv]
  simp [World.cell?,h,Array.getD,hi]
set_option maxHeartbeats 2000000 in
theorem ba_used (w : World) (b : Nat) (c : Array Value) (hb : w.heap[b]? = some (.cells c tPr (0,0))) (hc : c.size = 2) (h0 : c.getD 0 undef = .pointer (some ⟨b,0,none⟩)) :
    Calls Tryd.prog ccF #[.pointer (some ⟨b,0,none⟩)] w fun en w' => en = .returned (.tuple #[]) ∧ w' = w := by
  obtain ⟨j,hj,_⟩ := Option.map_eq_some_iff.1 ba_bi
  have h0 := ba_cell hb (i := 0) (by omega) h0
  have mixed : Tryd.prog.follows .mixedOrders = true := by kernel_rfl
  unfold ccF
  go_enter Tryd.func50,Tryd.ntmps50
  go_wp2
  rw [Lib.run_neq_ptr_same w _ ba_bp hj]
  go_wp2
  go_end0
  exact ⟨rfl,rfl⟩
set_option maxHeartbeats 2000000 in
theorem ba_fresh (w : World) (b : Nat) (c : Array Value) (hb : w.heap[b]? = some (.cells c tPr (0,0))) (hc : c.size = 2) (h0 : c.getD 0 undef = .pointer none) (w2 : World) (h2 : (storeVar tBp ⟨b,0,none⟩ (.pointer (some ⟨b,0,none⟩))).run Tryd.prog w = .ok () w2) :
    Calls Tryd.prog ccF #[.pointer (some ⟨b,0,none⟩)] w fun en w' => en = .returned (.tuple #[]) ∧ w' = w2 := by
  obtain ⟨j,hj,hjs⟩ := Option.map_eq_some_iff.1 ba_bi
  have h0 := ba_cell hb (i := 0) (by omega) h0
  have hsh : w.shape? b = some (tPr,2) := by simp [World.shape?,hb,hc]
  have hfz : w.frozen? ⟨b,0,none⟩ = false := by simp [World.frozen?,hb]
  have hw : w.setCell ⟨b,0,none⟩ (.pointer (some ⟨b,0,none⟩)) = w2 := by
    obtain ⟨ti,hti,hts⟩ := Option.map_eq_some_iff.1 ba_bpi
    have : (storeVar tBp ⟨b,0,none⟩ (.pointer (some ⟨b,0,none⟩))).run Tryd.prog w = .ok () (w.setCell ⟨b,0,none⟩ (.pointer (some ⟨b,0,none⟩))) := by
      simp [storeVar,sizeOf,typeInfo,show Tryd.prog.info? tBp = some ti from hti,hts,Value.cells,storeCells,h0,hfz,store,Addr.add,Sem.run]
    rw [this] at h2
    cases h2
    rfl
  have mixed : Tryd.prog.follows .mixedOrders = true := by kernel_rfl
  unfold ccF
  go_enter Tryd.func50,Tryd.ntmps50
  go_wp2
  rw [Lib.run_to_unsafe w ⟨b,0,none⟩ ba_bp ba_up hj (by rw [hjs]; decide) hsh (Nat.zero_lt_succ 1)]
  simp only [Result.andThen]
  rw [Oper.upon_value]
  go_wp2
  rw [run_callFunc_extern Tryd.func54 (by kernel_rfl) (by kernel_rfl) (by kernel_rfl) (e := Extern.AbiNoEscape.same) (by kernel_rfl)]
  rw [Lib.run_noEscape]
  simp only [Result.andThen]
  rw [Oper.upon_value]
  go_wp2
  rw [Lib.run_from_unsafe w ⟨b,0,none⟩ ba_up ba_bp hj hsh ba_lies]
  simp only [Result.andThen]
  rw [Oper.upon_value]
  go_wp2
  go_end0
  exact ⟨rfl,rfl⟩
set_option maxHeartbeats 4000000 in
theorem ba_strs (w : World) (b b2 cap : Nat) (c c2 : Array Value) (s : ByteArray) (hb : w.heap[b]? = some (.cells c tPr (0,0))) (hc : c.size = 2) (h1 : c.getD 1 undef = .slice (some ⟨b2,0,none⟩) s.size cap) (hne : b ≠ b2)
    (hb2 : w.heap[b2]? = some (.cells c2 tU8 (0,0))) (h0 : 0 < s.size) (hcap : s.size ≤ cap) (hsz : s.size ≤ c2.size) (hmx : cap ≤ maxLen) (hcell : ∀ i,i < s.size → c2.getD i undef = .int .u8 (((sb s).getD i 0 : Nat) : Int)) :
    Calls Tryd.prog stF #[.pointer (some ⟨b,0,none⟩)] w fun en w' => en = .returned (.string s) ∧ w'.os = w.os ∧ w'.tape = w.tape ∧ w'.output = w.output ∧ w'.heap.size = w.heap.size ∧ ∀ x,x ≠ b2 → w'.heap[x]? = w.heap[x]? := by
  obtain ⟨l,hl⟩ : ∃ l,l = s.data.toList := ⟨_,rfl⟩
  have hs : s = ⟨l.toArray⟩ := by rw [hl]
  have hll : l.length = s.size := by rw [hl]; rfl
  have hl0 : l ≠ [] := fun e => by rw [e] at hll; simp at hll; omega
  unfold maxLen at hmx
  have c1 : w.drew.cell? ⟨b,1,none⟩ = some (.slice (some ⟨b2,0,none⟩) l.length cap) := by
    rw [hll]
    exact ba_cell (w := w.drew) (show w.drew.heap[b]? = _ from hb) (i := 1) (by omega) h1
  have hSD : (Builtin.unsafeSliceData_ #[36] 57 #[.slice (some ⟨b2,0,none⟩) l.length cap]).run Tryd.prog w.drew = .ok (.pointer (some ⟨b2,0,none⟩)) w.drew :=
    Lib.run_unsafeSliceData_row _ _ _ _ _ _ (by omega)
  have hUS : (Builtin.unsafeString_ #[57,3] 9 #[.pointer (some ⟨b2,0,none⟩),.int .i64 l.length]).run Tryd.prog w.drew = .ok (.string ⟨l.toArray⟩) (w.drew.freeze ⟨b2,0,none⟩ l.length) := by
    refine Lib.run_unsafeString_row w.drew _ _ _ 5 ba_u8p ba_c8 b2 c2.size (by simp [World.shape?,show w.drew.heap[b2]? = _ from hb2,tU8]) l hl0 (by omega) (by omega) ?_
    intro j x hx
    have hj : j < l.length := (List.getElem?_eq_some_iff.1 hx).1
    have h9 := hcell j (by omega)
    have h10 : (sb s).getD j 0 = x.toNat := by
      unfold sb
      rw [← hl,List.getD_eq_getElem?_getD,List.getElem?_map,hx]
      rfl
    rw [h10] at h9
    have := ba_cell (w := w.drew) (show w.drew.heap[b2]? = _ from hb2) (i := j) (by omega) h9
    show w.drew.cell? (Addr.add ⟨b2,0,none⟩ j) = _
    rw [show Addr.add ⟨b2,0,none⟩ j = ⟨b2,j,none⟩ by simp [Addr.add]; intro h; rw [h]]
    exact this
  have mixed : Tryd.prog.follows .mixedOrders = true := by kernel_rfl
  have fin : ∀ w' : World,w' = w.drew.freeze ⟨b2,0,none⟩ l.length → w'.os = w.os ∧ w'.tape = w.tape ∧ w'.output = w.output ∧ w'.heap.size = w.heap.size ∧ ∀ x,x ≠ b2 → w'.heap[x]? = w.heap[x]? := by
    rintro w' rfl
    have hn : l.length ≠ 0 := by simpa using hl0
    unfold World.freeze
    rw [if_neg hn]
    refine ⟨rfl,rfl,rfl,by show (w.heap.modify b2 _).size = _; rw [Array.size_modify],fun x hx => ?_⟩
    show (w.heap.modify b2 _)[x]? = _
    rw [Array.getElem?_modify,if_neg (fun e => hx e.symm)]
  rw [hs]
  clear hs hl hcell hb hb2 h1 hll hcap hsz h0
  unfold stF
  go_enter Tryd.func13,Tryd.ntmps13
  go_wp2
  go_region_o
  all_goals (go_wp2; go_ret; exact ⟨rfl,fin _ rfl⟩)
set_option maxHeartbeats 4000000 in
theorem ba_strn (w : World) (b : Nat) (c : Array Value) (hb : w.heap[b]? = some (.cells c tPr (0,0))) (hc : c.size = 2) (h1 : c.getD 1 undef = .slice none 0 0) :
    Calls Tryd.prog stF #[.pointer (some ⟨b,0,none⟩)] w fun en w' => en = .returned (.string .empty) ∧ w'.os = w.os ∧ w'.tape = w.tape ∧ w'.output = w.output ∧ w'.heap = w.heap := by
  have c1 : w.drew.cell? ⟨b,1,none⟩ = some (.slice none 0 0) := ba_cell (w := w.drew) (show w.drew.heap[b]? = _ from hb) (i := 1) (by omega) h1
  have hSD : (Builtin.unsafeSliceData_ #[36] 57 #[.slice none 0 0]).run Tryd.prog w.drew = .ok (.pointer none) w.drew := rfl
  have hUS : (Builtin.unsafeString_ #[57,3] 9 #[.pointer none,.int .i64 0]).run Tryd.prog w.drew = .ok (.string .empty) w.drew := Lib.run_unsafeString_none _ _ _ _ _
  have mixed : Tryd.prog.follows .mixedOrders = true := by kernel_rfl
  unfold stF
  go_enter Tryd.func13,Tryd.ntmps13
  go_wp2
  go_region_o
  all_goals (go_wp2; go_ret; exact ⟨rfl,rfl,rfl,rfl,rfl⟩)
theorem bld_ok : BldOk Tryd.prog where
  cc := ⟨_,_,Tryd.func50,rfl,by decide⟩
  st := ⟨_,_,Tryd.func13,rfl,by decide⟩
  info := Option.map_eq_some_iff.1 ba_bpi
  fresh := ba_fresh
  used := ba_used
  strn := ba_strn
  strs := ba_strs
end Go.Proofs.YtpbpmpabndgeeaaDoor
