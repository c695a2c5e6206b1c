/- Go code turned into data-level code; what the turning means for operands, slots and new objects. No condition. -/
import Derived.Test.YtdijijblccmfbaaA1
set_option linter.unusedSimpArgs false
set_option linter.unusedVariables false
namespace Go.Proofs.Ytdijijblccmfbaa
open Go

/-! ### constants -/
def ofS : Value → D
  | .bool b => .bool b
  | .int k n => .int k n
  | .string s => .str (sb s)
  | .pointer none => .nilp
  | .slice none 0 0 => .nils
  | .map none => .nilm
  | .nilFunc => .nilf
  | .nilIface => .nili
  | _ => .junk
def ofV : Value → D
  | .agg vs => if vs.toList.all (·.oneCell') then .agg (vs.toList.map ofS) else .junk
  | .tuple vs => if vs.size = 0 then .tup [] else .junk
  | v => ofS v

theorem ofS_rep (w : World) (M : Nat → Prop) (β : Nat → Bk) (U : Us) (v : Value) : Rep w M β U v (ofS v) := by
  unfold ofS
  split <;> first | exact .bool | exact .int | exact .str _ | exact .nilp | exact .nils | exact .nilm | exact .nilf | exact .nili | exact .junk
theorem ofV_rep (w : World) (M : Nat → Prop) (β : Nat → Bk) (U : Us) (v : Value) : Rep w M β U v (ofV v) := by
  unfold ofV
  split
  · rename_i vs
    split
    · rename_i h
      refine .agg vs _ (by simp) (fun i hi => ?_) (fun i hi => ?_)
      · have hi' : i < vs.size := by simpa using hi
        have := List.all_eq_true.1 h (vs[i]) (by simp)
        simpa [Array.getD, hi'] using this
      · have hi' : i < vs.size := by simpa using hi
        have e : (vs.toList.map ofS).getD i .junk = ofS (vs.getD i undef) := by simp [Array.getD, hi', List.getD_eq_getElem?_getD]
        rw [e]
        exact ofS_rep _ _ _ _ _
    · exact .junk
  · rename_i vs
    split
    · rename_i h
      exact .tup vs [] (by simpa using h) (fun i hi => absurd hi (Nat.not_lt_zero _))
    · exact .junk
  · exact ofS_rep _ _ _ _ _

/-! ### turning -/
section
variable (P : Program) (m : Nat)
def cO : Operand → Opd
  | .tmp t => if t < m then .s (po t) else .k .junk
  | .const v => .k (ofV v)
  | .global _ => .k .junk
  | .func f => .k (.fn f [] [])
def cOs (a : Array Operand) : List Opd := a.toList.map (cO m)
def aggD : TypeDesc → Bool
  | .struct _ => true
  | .array _ _ => true
  | _ => false
/-- a type's cells, and whether its values are structs -/
def cT (t : TypeId) (f : Bool → TypeInfo → DOp) : DOp := match P.info? t with
  | some i => (match P.underlying t with | some d => f (aggD d) i | none => .bad)
  | none => .bad
def ekS : TypeDesc → Option EK
  | .bool => some .bool
  | .string => some .str
  | .pointer _ => some .ptr
  | .slice _ => some .slice
  | .func _ _ _ => some .func
  | .map _ _ => some .map
  | .int k => some (.int k)
  | _ => none
def ekL : List Field → Option (List EK)
  | [] => some []
  | f :: t => if f.name = "_" then none else match P.underlying f.type with
    | some d => (match ekS d, ekL t with | some k, some l => some (k :: l) | _, _ => none)
    | none => none
/-- fields of one cell each, one behind the other -/
def rowed : List Field → Nat → Bool
  | [], _ => true
  | f :: t, n => f.offset == n && rowed t (n + 1)
def cEq (neg : Bool) (op : BinOp) (t : TypeId) (x y : Operand) : DOp := match P.underlying t with
  | some (.int _) => .bin op (cO m x) (cO m y)
  | some .string => .bin op (cO m x) (cO m y)
  | some (.struct fs) => (match ekL P fs.toList with
    | some l => if rowed fs.toList 0 && !P.stoodInHeld t && !P.eqGuardType P.depth t then .cmp neg (.struct l) (cO m x) (cO m y) else .bad
    | none => .bad)
  | some d => (match ekS d with | some k => .cmp neg k (cO m x) (cO m y) | none => .bad)
  | none => .bad
def cBin (op : BinOp) (t : TypeId) (x y : Operand) : DOp := match op with
  | .eql => cEq P m false .eql t x y
  | .neq => cEq P m true .neq t x y
  | op => .bin op (cO m x) (cO m y)
def plcS (fs : Array Field) (i : Nat) : Option (Nat × Nat) := match fs[i]? with
  | some f => (match P.info? f.type with | some j => some (f.offset, j.size) | none => none)
  | none => none
def cParts (plc : Nat → Option (Nat × Nat)) : List (Nat × Operand) → Option (List (Nat × Nat × Opd))
  | [] => some []
  | (i, x) :: t => match plc i, cParts plc t with
    | some q, some l => some ((q.1, q.2, cO m x) :: l)
    | _, _ => none
def cBuild (T : TypeId) (parts : List (Nat × Operand)) : DOp := match P.info? T, P.underlying T with
  | some i, some (.array _ e) => (match P.info? e with
    | some j => (match i.zero, cParts m (fun x => some (x * j.size, j.size)) parts with
      | some z, some l => (match ofV z with | .agg zs => .build zs l | _ => .bad)
      | _, _ => .bad)
    | none => .bad)
  | some i, some (.struct fs) => (match i.zero, cParts m (plcS P fs) parts with
    | some z, some l => (match ofV z with | .agg zs => if fs.toList.all fun f => (P.info? f.type).isSome then .build zs l else .bad | _ => .bad)
    | _, _ => .bad)
  | _, _ => .bad
def cBsl (T len : Nat) (parts : List (Nat × Operand)) : DOp := match P.underlying T with
  | some (.slice e) => (match P.info? e with
    | some i => if parts.map (·.1) = List.range len ∧ len * i.size ≤ 16777216 ∧ len ≤ 9223372036854775807 ∧ i.zero.isSome then .bsl i.size (parts.map fun p => cO m p.2) else .bad
    | none => .bad)
  | _ => .bad
def cFaddr (T : TypeId) (x : Operand) (f : Nat) : DOp := match P.underlying T with
  | some (.struct fs) => (match fs[f]? with
    | some fl => (match P.info? fl.type with | some i => if i.size = 0 then .bad else .faddr fl.offset (cO m x) | none => .bad)
    | none => .bad)
  | _ => .bad
def cFld (T : TypeId) (x : Operand) (f : Nat) : DOp := match P.underlying T with
  | some (.struct fs) => (match fs[f]? with
    | some fl => cT P fl.type fun ag i => .fld ag fl.offset i.size (cO m x)
    | none => .bad)
  | _ => .bad
def cIaddr (T : TypeId) (x i : Operand) : DOp := match P.underlying T with
  | some (.slice e) => (match P.info? e with | some j => .iaddr j.size (cO m x) (cO m i) | none => .bad)
  | some (.array n e) => (match P.info? e with | some j => .paddr j.size n (cO m x) (cO m i) | none => .bad)
  | _ => .bad
def cSlice (T : TypeId) (x : Operand) (lo hi mx : Option Operand) : DOp := match P.underlying T with
  | some (.slice e) => (match P.info? e with | some j => .slice j.size (cO m x) (lo.map (cO m)) (hi.map (cO m)) (mx.map (cO m)) | none => .bad)
  | some .string => (match mx with | none => .sslice (cO m x) (lo.map (cO m)) (hi.map (cO m)) | some _ => .bad)
  | _ => .bad
def sameTmp : Operand → Operand → Bool
  | .tmp a, .tmp b => a == b
  | .const (.int k a), .const (.int q b) => decide (k = q) && a == b
  | _, _ => false
noncomputable def cMksl (T : TypeId) (l c : Operand) : DOp := match P.underlying T with
  | some (.slice e) => (match P.info? e with
    | some i => (match i.zero with | some z => if sameTmp l c && okF i.size (ofV z) && decide (0 < i.size) && decide (0 < i.bytes) then .mksl i.size i.bytes (ofV z) (cO m l) else .bad | none => .bad)
    | none => .bad)
  | _ => .bad
def ekK (t : TypeId) : Option EK := match P.underlying t with
  | some .bool => some .bool
  | some .string => some .str
  | some (.int k) => some (.int k)
  | _ => none
def cLook (T : TypeId) (x i : Operand) (ok : Bool) : DOp := match P.underlying T with
  | some (.map k e) => (match ekK P k, P.info? e with
    | some t, some j => (match j.zero with | some z => .look t (ofV z) ok (cO m x) (cO m i) | none => .bad)
    | _, _ => .bad)
  | _ => .bad
def cMupd (T : TypeId) (x i v : Operand) : DOp := match P.underlying T with
  | some (.map k _) => (match ekK P k with | some t => .mupd t (cO m x) (cO m i) (cO m v) | none => .bad)
  | _ => .bad
def cLen (ts : Array TypeId) (xs : Array Operand) : DOp := match ts.toList, xs.toList with
  | [t], [x] => (match P.underlying t with
    | some .string => .len .str (cO m x)
    | some (.slice _) => .len .slice (cO m x)
    | some (.map _ _) => .len .map (cO m x)
    | _ => .bad)
  | _, _ => .bad
def cApp (ts : Array TypeId) (xs : Array Operand) : DOp := match ts.toList, xs.toList with
  | [t, u], [s, x] => (match P.underlying t with
    | some (.slice e) => (match P.info? e with
      | some i => if t = u ∧ i.zero.isSome ∧ (i.zero.map fun z => z.cells.size) = some i.size ∧ 0 < i.size ∧ 0 < i.bytes then .app i.size i.bytes (cO m s) (cO m x) else .bad
      | none => .bad)
    | _ => .bad)
  | _, _ => .bad
def cMdel (ts : Array TypeId) (xs : Array Operand) : DOp := match ts.toList, xs.toList with
  | t :: _, [x, k] => (match P.underlying t with
    | some (.map key _) => (match ekK P key with | some q => .mdel q (cO m x) (cO m k) | none => .bad)
    | _ => .bad)
  | _, _ => .bad
def cCvt (src dst : TypeId) (x : Operand) : DOp := match P.underlying src, P.underlying dst with
  | some _, some (.int k) => .cvi k (cO m x)
  | _, _ => .bad
def cMM (f : Opd → Opd → DOp) (xs : Array Operand) : DOp := match xs.toList with
  | [x, y] => f (cO m x) (cO m y)
  | _ => .bad
def cCall (c : Call) : DOp := match c.callee with
  | .builtin .len => cLen P m c.argTypes c.args
  | .builtin .append => cApp P m c.argTypes c.args
  | .builtin .delete => cMdel P m c.argTypes c.args
  | .builtin .max => cMM m .max c.args
  | .builtin .min => cMM m .min c.args
  | .value f => .call (cO m f) (cOs m c.args)
  | _ => .bad
noncomputable def cNew (T : TypeId) : DOp := match P.info? T with
  | some i => (match i.zero with | some z => .new (lenL (cells (ofV z))) (ofV z) | none => .bad)
  | none => .bad
def cBox (T : TypeId) (x : Operand) : DOp := match P.info? T with
  | some i => .box i.size (cO m x)
  | none => .bad
def cFn1 (fn : Fn) (a c : Array Operand) : DOp := match fn with
  | .func f => .mkfn f (cOs m a) (cOs m c)
  | _ => .bad
noncomputable def cOp (o : Oper) : DOp := match o.op with
  | .move x => .mv (cO m x)
  | .assign x => .mv (cO m x)
  | .pick c a b => .pick (cO m c) (cO m a) (cO m b)
  | .alloc T => cNew P T
  | .box T x => cBox P m T x
  | .build T parts => cBuild P m T parts.toList
  | .buildSlice T len parts => cBsl P m T len parts.toList
  | .load T a => cT P T fun ag i => .load ag i.size (cO m a)
  | .store T a x => cT P T fun ag i => if ag = false ∧ i.size ≠ 1 then .bad else .store ag i.size (cO m a) (cO m x)
  | .binOp op t x y _ => cBin P m op t x y
  | .unOp op _ x => (match op with | .not => .not (cO m x) | .neg => .neg (cO m x) | _ => .bad)
  | .fieldAddr T x f => cFaddr P m T x f
  | .field T x f => cFld P m T x f
  | .indexAddr T x i => cIaddr P m T x i
  | .index T x i => (match P.underlying T with | some .string => .sidx (cO m x) (cO m i) | some (.array n e) => cT P e fun ag j => .aidx ag j.size n (cO m x) (cO m i) | _ => .bad)
  | .slice T x lo hi mx => cSlice P m T x lo hi mx
  | .extract x i => .ext (cO m x) i
  | .makeFunc fn a c => cFn1 m fn a c
  | .makeSlice T l c => cMksl P m T l c
  | .nilCheck x => .nilck (cO m x)
  | .makeMap _ r => (match r with | none => .mkmap | some _ => .bad)
  | .lookup T x i ok => cLook P m T x i ok
  | .mapUpdate T x i v => cMupd P m T x i v
  | .convert src dst x => cCvt P m src dst x
  | .call c => cCall P m c
  | _ => .bad
def cDst (d : Option Nat) : Option (Option Po) := match d with
  | none => some none
  | some t => if t < m then some (some (po t)) else none
def cG (ops : Array Oper) (g : Option (Nat × Bool)) : Option (Option (Po × Bool)) := match g with
  | none => some none
  | some (j, w) => (match (ops[j]?).bind (·.dst) with
    | some t => if t < m then some (some (po t, w)) else none
    | none => none)
noncomputable def cOper (ops : Array Oper) (o : Oper) : DOper := match cDst m o.dst, cG m ops o.guard with
  | some d, some g => .op d g (cOp P m o)
  | _, _ => .op none none .bad
/-- does it touch memory that may be written to? -/
def loud : DOp → Nat
  | .load .. => 1
  | .look .. => 1
  | .len .. => 1
  | .store .. => 2
  | .mupd .. => 2
  | .mdel .. => 2
  | .app .. => 2
  | .new .. => 2
  | .box .. => 2
  | .bsl .. => 2
  | .mksl .. => 2
  | .mkmap => 2
  | .call .. => 2
  | _ => 0
noncomputable def unOf (ops : Array Oper) (b : Array Nat) (ls : List Nat) (j lj : Nat) : List Nat :=
  ((List.range j).filter fun i => !(b.getD j 0).testBit i && decide (0 < lj) && decide (0 < ls.getD i 0) && decide (2 < lj + ls.getD i 0)).map fun i => j - 1 - i
noncomputable def cUn (ops : Array Oper) : List (List Nat) :=
  let b := Region.before ops
  let ls := ops.toList.map fun o => loud (cOp P m o)
  (List.range ops.size).map fun j => unOf ops b ls j (ls.getD j 0)
/-- is all else that touches memory ahead of it or behind it? -/
def barOf (b : Array Nat) (ls : List Nat) (k j : Nat) : Bool := (List.range k).all fun i => i == j || ls.getD i 0 == 0 || (decide (i < j) && (b.getD j 0).testBit i) || (decide (j < i) && (b.getD i 0).testBit j)
noncomputable def cBar (ops : Array Oper) : List Bool :=
  let b := Region.before ops
  let ls := ops.toList.map fun o => loud (cOp P m o)
  (List.range ops.size).map fun j => barOf b ls ops.size j
def eqPo : Po → Po → Bool
  | .h, .h => true
  | .o p, .o q => eqPo p q
  | .i p, .i q => eqPo p q
  | _, _ => false
def apartPo (a b : List Po) : Bool := a.all fun p => b.all fun q => !eqPo p q
/-- two operations to which no order is given have nothing to do with each other's slots -/
def apartOp (x y : DOper) : Bool := apartPo (wrP x) (wrP y) && apartPo (wrP x) (rdP y) && apartPo (wrP y) (rdP x)
def drawOk (b : Array Nat) (ops : Array Oper) (l : List DOper) : Bool :=
  ((List.range ops.size).all fun j => (List.range j).all fun i => (b.getD j 0).testBit i || apartOp (l.getD i (.op none none .bad)) (l.getD j (.op none none .bad))) &&
  ops.toList.zipIdx.all fun p => p.1.after.all fun e => !Region.binds .any e || decide (e.on < p.2)
noncomputable def cCode : Code → DCode
  | .skip => .skip
  | .ret => .ret
  | .exit i => .exit i
  | .label _ => .skip
  | .seq a b => .seq (cCode a) (cCode b)
  | .cond c a b => .cond (cO m c) (cCode a) (cCode b)
  | .block i b => .block i (cCode b)
  | .loop b => .loop (cCode b)
  | .region _ ops dr => if dr then (if drawOk (Region.before ops) ops (ops.toList.map (cOper P m ops)) then .draw (cUn P m ops) (cBar P m ops) (ops.toList.map (cOper P m ops)) else .bad) else .reg (ops.toList.map (cOper P m ops))
  | .scope b => .scope (cCode b)
  | .rangeFunc f ps a b => if ps.toList.all (fun p => decide (p < m)) then .rng (cO m f) (ps.toList.map po) (cCode a) (cCode b) else .bad
  | _ => .bad
def cRes : ResultVar → Option RV
  | .tmp t => if t < m then some (.tmp (po t)) else none
  | .cell a T => if a < m then (match P.info? T, P.underlying T with | some i, some d => some (.cell (po a) (aggD d) i.size) | _, _ => none) else none
def cRess : List ResultVar → Option (List RV)
  | [] => some []
  | r :: t => match cRes P m r, cRess t with
    | some a, some l => some (a :: l)
    | _, _ => none
end
def noFn : DFn := ⟨.bad, [], [], false⟩
noncomputable def cFunc (kp : Bool) (P : Program) (f : Func) : DFn := match f.body, cRess P f.ntmps f.results.toList with
  | some b, some l => if f.ntmps < 2 ^ 20 ∧ f.name ≠ "runtime.NumGoroutine" ∧ f.params.size + f.nfree ≤ f.ntmps then ⟨cCode P f.ntmps b, (List.range (f.params.size + f.nfree)).map po, l, kp⟩ else noFn
  | _, _ => noFn
noncomputable def cFk (K : Nat → Bool) (P : Program) (n : Nat) : DFn := match P.funcs[n]? with
  | some f => cFunc (K n) P f
  | none => noFn
/-- no function keeps its results: all are frozen -/
def noK (_ : Nat) : Bool := false
noncomputable abbrev cF (P : Program) : Nat → DFn := cFk noK P

end Go.Proofs.Ytdijijblccmfbaa
