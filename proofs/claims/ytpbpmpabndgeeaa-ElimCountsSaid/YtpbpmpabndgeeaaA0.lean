/- The data-level interpreter: Go values as pure data, Go code run over it in the order of the text. No condition: definitions alone. -/
import GoSem.Dispatch
set_option linter.unusedSimpArgs false
set_option linter.unusedVariables false
namespace Go.Proofs.Ytpbpmpabndgeeaa
open Go

inductive D where
  | junk
  | int (k:IntKind) (n:Int)
  | bool (b:Bool)
  | str (s:List Nat)
  | nilp | nilf | nili | nilm | nils
  | ptr (r i j:Nat)
  | ip (e:D) (j:Nat)
  | sl (k:Nat) (es sp:List D) (full:Bool)
  | ms (k r off len:Nat) (full:Bool)
  | mp (r:Nat)
  | yld (r:Nat)
  | fn (f:Nat) (first capt:List D)
  | iface (t:Nat) (d:D)
  | agg (cs:List D)
  | tup (vs:List D)
  deriving Inhabited

inductive Po where
  | h | o (p:Po) | i (p:Po)

inductive Opd where
  | s (p:Po)
  | k (d:D)

inductive EK where
  | bool | str | ptr | slice | func | map
  | int (k:IntKind)
  | struct (l:List EK)

inductive DOp where
  | mv (x:Opd)
  | pick (c a b:Opd)
  | new (k:Nat) (z:D)
  | box (k:Nat) (x:Opd)
  | build (zs:List D) (ps:List (Nat×Nat×Opd))
  | bsl (k:Nat) (es:List Opd)
  | load (ag:Bool) (k:Nat) (a:Opd)
  | store (ag:Bool) (k:Nat) (a x:Opd)
  | bin (op:BinOp) (x y:Opd)
  | cmp (neg:Bool) (t:EK) (x y:Opd)
  | not (x:Opd)
  | neg (x:Opd)
  | faddr (off:Nat) (x:Opd)
  | fld (ag:Bool) (off k:Nat) (x:Opd)
  | iaddr (k:Nat) (x i:Opd)
  | sidx (x i:Opd)
  | aidx (ag:Bool) (k n:Nat) (x i:Opd)
  | slice (k:Nat) (x:Opd) (lo hi mx:Option Opd)
  | sslice (x:Opd) (lo hi:Option Opd)
  | ext (x:Opd) (i:Nat)
  | mkfn (f:Nat) (first capt:List Opd)
  | mksl (k bytes:Nat) (z:D) (n:Opd)
  | nilck (x:Opd)
  | mkmap
  | look (t:EK) (z:D) (ok:Bool) (m i:Opd)
  | mupd (t:EK) (m k x:Opd)
  | len (t:EK) (x:Opd)
  | app (k bytes:Nat) (s x:Opd)
  | cvi (k:IntKind) (x:Opd)
  | paddr (k m:Nat) (x i:Opd)
  | mdel (t:EK) (m k:Opd)
  | max (x y:Opd)
  | min (x y:Opd)
  | apps (s x:Opd)
  | cvb (x:Opd)
  | cbs (x:Opd)
  | cbb (x:Opd)
  | mkif (t:Nat) (x:Opd)
  | tas (t:Nat) (ok:Bool) (z:D) (x:Opd)
  | mrng (x:Opd)
  | inv (tb:List (Nat×Nat×Option (Bool×Nat))) (x:Opd) (args:List Opd)
  | call (f:Opd) (args:List Opd)
  | bad

inductive DOper where
  | op (dst:Option Po) (g:Option (Po×Bool)) (o:DOp)

inductive RV where
  | tmp (p:Po)
  | cell (p:Po) (ag:Bool) (k:Nat)

inductive DCode where
  | skip | ret | bad
  | exit (i:Nat)
  | seq (a b:DCode)
  | cond (c:Opd) (a b:DCode)
  | block (i:Nat) (b:DCode)
  | loop (b:DCode)
  | scope (b:DCode)
  | reg (ops:List DOper)
  | draw (un:List (List Nat)) (bar:List Bool) (ops:List DOper)
  | rng (f:Opd) (ps:List Po) (assign body:DCode)

inductive Tr where
  | lf
  | nd (l:Tr) (v:D) (r:Tr)

inductive Jp where
  | none | exit (i:Nat) | ret

inductive Ob where
  | none
  | row (k:Nat) (es:List D)
  | map (es:List (D×D))
  | mit (q:Nat)
  | loop (k:Nat) (env:Tr) (ps:List Po) (assign body:DCode) (jump:Jp)

abbrev Hps:=List (Nat×Ob)

noncomputable def getO (l:Hps) (r:Nat):Ob:=List.rec (motive:=fun _=>Ob) .none (fun p _ ih=>Bool.rec (motive:=fun _=>Ob) ih p.2 (Nat.beq p.1 r)) l
noncomputable def setO (l:Hps) (r:Nat) (x:Ob):Hps:=List.rec (motive:=fun _=>Hps) [] (fun p t ih=>Bool.rec (motive:=fun _=>Hps) (p::ih) ((p.1,x)::t) (Nat.beq p.1 r)) l
noncomputable def delO (l:Hps) (r:Nat):Hps:=List.rec (motive:=fun _=>Hps) [] (fun p _ ih=>Bool.rec (motive:=fun _=>Hps) (p::ih) ih (Nat.beq p.1 r)) l
noncomputable def dropFrom (n0:Nat) (l:Hps):Hps:=List.rec (motive:=fun _=>Hps) [] (fun p _ ih=>Bool.rec (motive:=fun _=>Hps) ih (p::ih) (Nat.blt p.1 n0)) l

noncomputable def nth (l:List D):Nat→D:=List.rec (motive:=fun _=>Nat→D) (fun _ => .junk) (fun a _ ih n=>Nat.rec (motive:=fun _=>D) a (fun m _=>ih m) n) l
noncomputable def put (l:List D) (n:Nat) (d:D):List D:=List.rec (motive:=fun _=>Nat→List D) (fun _=>[]) (fun a t ih n=>Nat.rec (motive:=fun _=>List D) (d::t) (fun m _=>a::ih m) n) l n
noncomputable def dropL (n:Nat):List D→List D:=Nat.rec (motive:=fun _=>List D→List D) (fun l=>l) (fun _ ih l=>List.rec (motive:=fun _=>List D) [] (fun _ t _=>ih t) l) n
noncomputable def takeL (n:Nat):List D→List D:=Nat.rec (motive:=fun _=>List D→List D) (fun _=>[]) (fun _ ih l=>List.rec (motive:=fun _=>List D) [] (fun a t _=>a::ih t) l) n
noncomputable def lenL (l:List D):Nat:=List.rec (motive:=fun _=>Nat) 0 (fun _ _ ih=>Nat.succ ih) l
noncomputable def appL (l m:List D):List D:=List.rec (motive:=fun _=>List D) m (fun a _ ih=>a::ih) l
noncomputable def mapL (f:D→D) (l:List D):List D:=List.rec (motive:=fun _=>List D) [] (fun a _ ih=>f a::ih) l
noncomputable def allL (f:D→Bool) (l:List D):Bool:=List.rec (motive:=fun _=>Bool) true (fun a _ ih=>Bool.rec (motive:=fun _=>Bool) false ih (f a)) l
noncomputable def lenN (l:List Nat):Nat:=List.rec (motive:=fun _=>Nat) 0 (fun _ _ ih=>Nat.succ ih) l
noncomputable def appN (l m:List Nat):List Nat:=List.rec (motive:=fun _=>List Nat) m (fun a _ ih=>a::ih) l
noncomputable def dropN (n:Nat):List Nat→List Nat:=Nat.rec (motive:=fun _=>List Nat→List Nat) (fun l=>l) (fun _ ih l=>List.rec (motive:=fun _=>List Nat) [] (fun _ t _=>ih t) l) n
noncomputable def takeN (n:Nat):List Nat→List Nat:=Nat.rec (motive:=fun _=>List Nat→List Nat) (fun _=>[]) (fun _ ih l=>List.rec (motive:=fun _=>List Nat) [] (fun a t _=>a::ih t) l) n
noncomputable def eqN (l:List Nat):List Nat→Bool:=List.rec (motive:=fun _=>List Nat→Bool) (fun m=>List.rec (motive:=fun _=>Bool) true (fun _ _ _=>false) m)
  (fun a _ ih m=>List.rec (motive:=fun _=>Bool) false (fun b t _=>Bool.rec (motive:=fun _=>Bool) false (ih t) (Nat.beq a b)) m) l

noncomputable def trV (t:Tr):D:=Tr.rec (motive:=fun _=>D) .junk (fun _ v _ _ _=>v) t
noncomputable def trL (t:Tr):Tr:=Tr.rec (motive:=fun _=>Tr) .lf (fun l _ _ _ _=>l) t
noncomputable def trR (t:Tr):Tr:=Tr.rec (motive:=fun _=>Tr) .lf (fun _ _ r _ _=>r) t
noncomputable def get (p:Po):Tr→D:=Po.rec (motive:=fun _=>Tr→D) trV (fun _ ih t=>ih (trL t)) (fun _ ih t=>ih (trR t)) p
noncomputable def putT (p:Po) (d:D):Tr→Tr:=Po.rec (motive:=fun _=>Tr→Tr) (fun t => .nd (trL t) d (trR t)) (fun _ ih t => .nd (ih (trL t)) (trV t) (trR t)) (fun _ ih t => .nd (trL t) (trV t) (ih (trR t))) p

noncomputable def ev (env:Tr) (x:Opd):D:=Opd.rec (motive:=fun _=>D) (fun p=>get p env) (fun d=>d) x
noncomputable def evs (env:Tr) (l:List Opd):List D:=List.rec (motive:=fun _=>List D) [] (fun a _ ih=>ev env a::ih) l

def cells:D→List D
  | .agg cs=>cs
  | d=>[d]

def one:D→Bool
  | .junk=>false
  | .agg _=>false
  | .tup _=>false
  | _=>true

noncomputable def overwrite (x:List D):Nat→List D→List D:=List.rec (motive:=fun _=>Nat→List D→List D) (fun _ l=>l) (fun d _ ih j l=>ih (Nat.succ j) (put l j d)) x

inductive Rd where
  | bad
  | ok (d:D) (n:Nat) (h:Hps)
inductive Ex where
  | normal | exit (i:Nat) | ret
inductive Re where
  | bad
  | ok (e:Ex) (env:Tr) (n:Nat) (h:Hps)

def okD (n:Nat) (h:Hps) (d:D):Rd:=match d with
  | .junk => .bad
  | d => .ok d n h
noncomputable def ifR (b:Bool) (r:Rd):Rd:=Bool.rec (motive:=fun _=>Rd) .bad r b

noncomputable def subW (k:Nat) (cs:List D):D:=Bool.rec (motive:=fun _=>D) .junk (.agg cs) (Nat.beq k (lenL cs))
noncomputable def subA (ag:Bool) (k j:Nat) (cs:List D):D:=Bool.rec (motive:=fun _=>D) (nth cs j) (subW k (takeL k (dropL j cs))) ag
noncomputable def sub (ag:Bool) (k j:Nat) (d:D):D:=match d with
  | .agg cs=>subA ag k j cs
  | d=>Bool.rec (motive:=fun _=>D) (Nat.rec (motive:=fun _=>D) d (fun _ _ => .junk) j) .junk ag
noncomputable def setA1 (j:Nat) (cs:List D) (x:D):D:=Bool.rec (motive:=fun _=>D) .junk (.agg (put cs j x)) (Bool.and (one x) (Nat.blt j (lenL cs)))
noncomputable def setA2 (k j:Nat) (cs xs:List D):D:=Bool.rec (motive:=fun _=>D) .junk (.agg (overwrite xs j cs)) (Bool.and (Nat.beq (lenL xs) k) (Nat.ble (j+k) (lenL cs)))
noncomputable def setA (ag:Bool) (k j:Nat) (cs:List D) (x:D):D:=match x with
  | .agg xs=>Bool.rec (motive:=fun _=>D) .junk (setA2 k j cs xs) ag
  | x=>Bool.rec (motive:=fun _=>D) (setA1 j cs x) .junk ag
noncomputable def set1 (ag:Bool) (j:Nat) (x:D):D:=Bool.rec (motive:=fun _=>D) .junk x (Bool.and (Bool.not ag) (Bool.and (Nat.beq j 0) (one x)))
noncomputable def setS (ag:Bool) (k j:Nat) (e x:D):D:=match e with
  | .agg cs=>setA ag k j cs x
  | _=>set1 ag j x

noncomputable def loadR (ag:Bool) (k i j:Nat) (n:Nat) (h:Hps):Ob→Rd
  | .row _ es=>okD n h (sub ag k j (nth es i))
  | _ => .bad
noncomputable def loadD (ag:Bool) (k:Nat) (n:Nat) (h:Hps):D→Rd
  | .ptr r i j=>loadR ag k i j n h (getO h r)
  | .ip e j=>okD n h (sub ag k j e)
  | _ => .bad
noncomputable def storeS (r kk i:Nat) (es:List D) (n:Nat) (h:Hps) (x:D):Rd:=match x with
  | .junk => .bad
  | x=>ifR (Nat.blt i (lenL es)) (.ok .junk n (setO h r (.row kk (put es i x))))
noncomputable def storeR (ag:Bool) (k r i j:Nat) (x:D) (n:Nat) (h:Hps):Ob→Rd
  | .row kk es=>storeS r kk i es n h (setS ag k j (nth es i) x)
  | _ => .bad
noncomputable def storeD (ag:Bool) (k:Nat) (x:D) (n:Nat) (h:Hps):D→Rd
  | .ptr r i j=>storeR ag k r i j x n h (getO h r)
  | _ => .bad

def two62:Nat:=4611686018427387904
noncomputable def wr64 (n:Int):Int:=match n with
  | .ofNat m=>Bool.rec (motive:=fun _=>Int) (IntKind.i64.wrap (.ofNat m)) (.ofNat m) (Nat.blt m two62)
  | .negSucc m=>Bool.rec (motive:=fun _=>Int) (IntKind.i64.wrap (.negSucc m)) (.negSucc m) (Nat.blt m two62)
noncomputable def wr (k:IntKind) (n:Int):Int:=match k with
  | .i64=>wr64 n
  | k=>k.wrap n
def ltI (a b:Int):Bool:=match a with
  | .ofNat m => (match b with | .ofNat n=>Nat.blt m n | .negSucc _=>false)
  | .negSucc m => (match b with | .ofNat _=>true | .negSucc n=>Nat.blt n m)
def eqI (a b:Int):Bool:=match a with
  | .ofNat m => (match b with | .ofNat n=>Nat.beq m n | .negSucc _=>false)
  | .negSucc m => (match b with | .ofNat _=>false | .negSucc n=>Nat.beq m n)
def kc:IntKind→Nat
  | .i8=>0 | .i16=>1 | .i32=>2 | .i64=>3 | .u8=>4 | .u16=>5 | .u32=>6 | .u64=>7
def eqB (a b:Bool):Bool:=match a with
  | true=>b
  | false=>Bool.not b

inductive OB where
  | bad
  | ok (b:Bool)
noncomputable def andOB (a b:OB):OB:=match a with
  | .ok t => (match b with | .ok u => .ok (Bool.and t u) | .bad => .bad)
  | .bad => .bad
def eqP (a b:D):OB:=match a with
  | .nilp => (match b with | .nilp => .ok true | .ptr .. => .ok false | .ip .. => .ok false | _ => .bad)
  | .ptr .. => (match b with | .nilp => .ok false | _ => .bad)
  | .ip .. => (match b with | .nilp => .ok false | _ => .bad)
  | _ => .bad
def eqSl (a b:D):OB:=match a with
  | .nils => (match b with | .nils => .ok true | .sl .. => .ok false | .ms .. => .ok false | _ => .bad)
  | .sl .. => (match b with | .nils => .ok false | _ => .bad)
  | .ms .. => (match b with | .nils => .ok false | _ => .bad)
  | _ => .bad
def eqF (a b:D):OB:=match a with
  | .nilf => (match b with | .nilf => .ok true | .fn .. => .ok false | .yld .. => .ok false | _ => .bad)
  | .fn .. => (match b with | .nilf => .ok false | _ => .bad)
  | .yld .. => (match b with | .nilf => .ok false | _ => .bad)
  | _ => .bad
def eqM (a b:D):OB:=match a with
  | .nilm => (match b with | .nilm => .ok true | .mp .. => .ok false | _ => .bad)
  | .mp .. => (match b with | .nilm => .ok false | _ => .bad)
  | _ => .bad
def eqBo (a b:D):OB:=match a with
  | .bool a => (match b with | .bool b => .ok (eqB a b) | _ => .bad)
  | _ => .bad
noncomputable def eqSt (a b:D):OB:=match a with
  | .str a => (match b with | .str b => .ok (eqN a b) | _ => .bad)
  | _ => .bad
noncomputable def eqIn (k:IntKind) (a b:D):OB:=match a with
  | .int k1 a => (match b with | .int k2 b=>Bool.rec (motive:=fun _=>OB) .bad (.ok (eqI a b)) (Bool.and (Nat.beq (kc k) (kc k1)) (Nat.beq (kc k) (kc k2))) | _ => .bad)
  | _ => .bad
noncomputable def eq1 (t:EK) (a b:D):OB:=match t with
  | .bool=>eqBo a b
  | .str=>eqSt a b
  | .ptr=>eqP a b
  | .slice=>eqSl a b
  | .func=>eqF a b
  | .map=>eqM a b
  | .int k=>eqIn k a b
  | .struct _ => .bad
noncomputable def eqL (ts:List EK):List D→List D→OB:=List.rec (motive:=fun _=>List D→List D→OB) (fun _ _ => .ok true) (fun t _ ih a b =>
  List.rec (motive:=fun _=>OB) .bad (fun x xs _=>List.rec (motive:=fun _=>OB) .bad (fun y ys _=>andOB (eq1 t x y) (ih xs ys)) b) a) ts
noncomputable def eqAg (ts:List EK) (a b:D):OB:=match a with
  | .agg l => (match b with | .agg m=>eqL ts l m | _ => .bad)
  | _ => .bad
noncomputable def eqD (t:EK) (a b:D):OB:=match t with
  | .struct ts=>eqAg ts a b
  | t=>eq1 t a b
def obR (n:Nat) (h:Hps) (neg:Bool):OB→Rd
  | .ok b => .ok (.bool (eqB (Bool.not neg) b)) n h
  | .bad => .bad

def shD (op:BinOp) (k:IntKind) (a b:Int):D:=match b with
  | .ofNat m => (match op with
    | .shl => .int k (k.wrap (a*2 ^ Nat.min m k.bits))
    | .shr => .int k (a.fdiv (2 ^ Nat.min m k.bits))
    | _ => .junk)
  | .negSucc _ => .junk
def bitD (op:BinOp) (k:IntKind) (a b:Int):D:=match op with
  | .and => .int k (k.wrap ((BitVec.ofInt k.bits a) &&& (BitVec.ofInt k.bits b)).toNat)
  | .or => .int k (k.wrap ((BitVec.ofInt k.bits a) ||| (BitVec.ofInt k.bits b)).toNat)
  | _ => .junk
noncomputable def binI (op:BinOp) (k:IntKind) (a b:Int):D:=match op with
  | .add => .int k (wr k (Int.add a b))
  | .sub => .int k (wr k (Int.sub a b))
  | .mul => .int k (wr k (Int.mul a b))
  | .quo=>Bool.rec (motive:=fun _=>D) (.int k (wr k (Int.tdiv a b))) .junk (eqI b (.ofNat 0))
  | .rem=>Bool.rec (motive:=fun _=>D) (.int k (Int.tmod a b)) .junk (eqI b (.ofNat 0))
  | .lss => .bool (ltI a b)
  | .leq => .bool (Bool.not (ltI b a))
  | .gtr => .bool (ltI b a)
  | .geq => .bool (Bool.not (ltI a b))
  | .eql => .bool (eqI a b)
  | .neq => .bool (Bool.not (eqI a b))
  | op=>bitD op k a b
noncomputable def binK (op:BinOp) (k:IntKind) (a:Int) (k':IntKind) (b:Int):D:=match op with
  | .shl=>shD .shl k a b
  | .shr=>shD .shr k a b
  | op=>Bool.rec (motive:=fun _=>D) .junk (binI op k a b) (Nat.beq (kc k) (kc k'))
noncomputable def binS (op:BinOp) (a b:List Nat):D:=match op with
  | .add=>Bool.rec (motive:=fun _=>D) .junk (.str (appN a b)) (Nat.blt (lenN a+lenN b) two62)
  | .eql => .bool (eqN a b)
  | .neq => .bool (Bool.not (eqN a b))
  | _ => .junk
noncomputable def binD (op:BinOp) (x y:D):D:=match x with
  | .int k a => (match y with | .int k' b=>binK op k a k' b | _ => .junk)
  | .str a => (match y with | .str b=>binS op a b | _ => .junk)
  | _ => .junk

inductive VL where
  | bad
  | ok (k:Nat) (l:List D)
noncomputable def viewR (off len:Nat):Ob→VL
  | .row k es=>Bool.rec (motive:=fun _=>VL) .bad (.ok k (takeL len (dropL off es))) (Nat.ble (off+len) (lenL es))
  | _ => .bad
noncomputable def view (k:Nat) (h:Hps):D→VL
  | .nils => .ok k []
  | .sl k es _ _ => .ok k es
  | .ms _ r off len _=>viewR off len (getO h r)
  | _ => .bad

noncomputable def clo0 (ih:D→Bool) (d:D):Bool:=match d with
  | .junk=>false
  | .ms .. => false
  | .ptr .. => false
  | .mp _=>false
  | .yld _=>false
  | .agg cs=>allL ih cs
  | .tup cs=>allL ih cs
  | .fn _ a c=>Bool.and (allL ih a) (allL ih c)
  | .iface _ d=>ih d
  | _=>true
noncomputable def clo (fuel:Nat):D→Bool:=Nat.rec (motive:=fun _=>D→Bool) (fun _=>false) (fun _ ih d=>clo0 ih d) fuel
noncomputable def okF (k:Nat) (d:D):Bool:=match d with
  | .junk=>false
  | .tup _=>false
  | d=>Nat.beq k (lenL (cells d))
noncomputable def okE (k:Nat) (d:D):Bool:=Bool.and (okF k d) (clo 20 d)

noncomputable def spareK (k:Nat) (sp:List D) (full:Bool):List D:=Bool.rec (motive:=fun _=>List D) (Bool.rec (motive:=fun _=>List D) [] sp (Bool.and (Nat.blt 0 k) (allL (okE k) sp))) [] full
noncomputable def frzS (k:Nat) (es sp:List D) (full:Bool):D:=Bool.rec (motive:=fun _=>D) .junk (.sl k es (spareK k sp full) full) (allL (okE k) es)
noncomputable def frzO (ih:D→D) (k off len:Nat) (full:Bool):Ob→D
  | .row k' es=>Bool.rec (motive:=fun _=>D) .junk (frzS k (mapL ih (takeL len (dropL off es))) (dropL (off+len) es) full) (Bool.and (Nat.beq k k') (Nat.ble (off+len) (lenL es)))
  | _ => .junk
noncomputable def frzI (k j:Nat) (e:D):D:=Bool.rec (motive:=fun _=>D) .junk (.ip e j) (okE k e)
noncomputable def frzP (ih:D→D) (i j:Nat):Ob→D
  | .row k es=>frzI k j (ih (nth es i))
  | _ => .junk
noncomputable def frz0 (h:Hps) (n0:Nat) (ih:D→D) (d:D):D:=match d with
  | .ms k r off len full=>Bool.rec (motive:=fun _=>D) (frzO ih k off len full (getO h r)) (.ms k r off len full) (Nat.blt r n0)
  | .ptr r i j=>Bool.rec (motive:=fun _=>D) (frzP ih i j (getO h r)) (.ptr r i j) (Nat.blt r n0)
  | .agg cs => .agg (mapL ih cs)
  | .tup cs => .tup (mapL ih cs)
  | .fn f a c => .fn f (mapL ih a) (mapL ih c)
  | d=>d
noncomputable def frz (h:Hps) (n0:Nat) (fuel:Nat):D→D:=Nat.rec (motive:=fun _=>D→D) (fun _ => .junk) (fun _ ih d=>frz0 h n0 ih d) fuel
noncomputable def hasP0 (n0:Nat) (ih:D→Bool) (d:D):Bool:=match d with
  | .ptr r _ _=>Nat.ble n0 r
  | .mp r=>Nat.ble n0 r
  | .agg cs=>Bool.not (allL (fun d=>Bool.not (ih d)) cs)
  | .tup cs=>Bool.not (allL (fun d=>Bool.not (ih d)) cs)
  | _=>false
noncomputable def hasP (n0:Nat) (fuel:Nat):D→Bool:=Nat.rec (motive:=fun _=>D→Bool) (fun _=>false) (fun _ ih d=>hasP0 n0 ih d) fuel
noncomputable def hasR0 (n0:Nat) (ih:D→Bool) (d:D):Bool:=match d with
  | .ptr r _ _=>Nat.ble n0 r
  | .ms _ r _ _ _=>Nat.ble n0 r
  | .mp r=>Nat.ble n0 r
  | .yld r=>Nat.ble n0 r
  | .iface _ d=>ih d
  | .agg cs=>Bool.not (allL (fun d=>Bool.not (ih d)) cs)
  | .tup cs=>Bool.not (allL (fun d=>Bool.not (ih d)) cs)
  | .fn _ a c=>Bool.not (Bool.and (allL (fun d=>Bool.not (ih d)) a) (allL (fun d=>Bool.not (ih d)) c))
  | _=>false
noncomputable def hasR (n0:Nat) (fuel:Nat):D→Bool:=Nat.rec (motive:=fun _=>D→Bool) (fun _=>true) (fun _ ih d=>hasR0 n0 ih d) fuel
noncomputable def obR1 (n0:Nat):Ob→Bool
  | .row _ es=>Bool.not (allL (fun d=>Bool.not (hasR n0 20 d)) es)
  | .map es=>List.rec (motive:=fun _=>Bool) false (fun p _ ih=>Bool.or (hasR n0 20 p.1) (Bool.or (hasR n0 20 p.2) ih)) es
  | .mit q=>Nat.ble n0 q
  | .loop k _ _ _ _ _=>Nat.blt n0 k
  | .none=>false
noncomputable def leak (n0:Nat) (h:Hps):Bool:=List.rec (motive:=fun _=>Bool) false (fun p _ ih=>Bool.rec (motive:=fun _=>Bool) ih (Bool.or (obR1 n0 p.2) ih) (Nat.blt p.1 n0)) h

def most:Nat:=140737488355328
noncomputable def appN1 (n:Nat) (h:Hps) (k bytes:Nat) (xs:List D):Rd:=ifR (Nat.ble (lenL xs*bytes) most) (.ok (.ms k n 0 (lenL xs) false) n ((n,.row k xs)::h))
noncomputable def appR2 (n:Nat) (h:Hps) (k bytes r:Nat) (es xs:List D):Rd:=ifR (Nat.ble ((lenL es+lenL xs)*bytes) most) (.ok (.ms k n 0 (lenL es+lenL xs) false) n ((n,.row k (appL es xs))::delO h r))
noncomputable def appR (n:Nat) (h:Hps) (k bytes r off len:Nat) (full:Bool) (xs:List D):Ob→Rd
  | .row _ es=>Bool.rec (motive:=fun _=>Rd)
      (ifR (Bool.and (Nat.beq off 0) (Nat.beq len (lenL es))) (appR2 n h k bytes r es xs))
      (ifR (Nat.ble (off+len) (lenL es)) (appN1 n h k bytes (appL (takeL len (dropL off es)) xs))) full
  | _ => .bad
noncomputable def appV (n:Nat) (h:Hps) (k bytes:Nat) (xs:List D) (s:D):Rd:=match s with
  | .nils=>appN1 n h k bytes xs
  | .sl k' es _ full=>ifR (Bool.and full (Nat.beq k k')) (appN1 n h k bytes (appL es xs))
  | .ms k' r off len full=>ifR (Nat.beq k k') (appR n h k bytes r off len full xs (getO h r))
  | _ => .bad
noncomputable def appW (n:Nat) (h:Hps) (k bytes:Nat) (s:D) (xs:List D):Rd:=match xs with
  | [] => (match s with | .junk => .bad | .nils => .ok .nils n h | .sl a b c d => .ok (.sl a b c d) n h | .ms a b c d e => .ok (.ms a b c d e) n h | _ => .bad)
  | x::xt=>appV n h k bytes (x::xt) s
noncomputable def appD (n:Nat) (h:Hps) (k bytes:Nat) (s:D):VL→Rd
  | .ok k' xs=>ifR (Nat.beq k k') (appW n h k bytes s xs)
  | .bad => .bad

noncomputable def strL (s:List Nat):List D:=List.rec (motive:=fun _=>List D) [] (fun c _ ih => .int .u8 (.ofNat c)::ih) s
noncomputable def appsD (n:Nat) (h:Hps) (s:D):D→Rd
  | .str t=>appW n h 1 1 s (strL t)
  | _ => .bad
noncomputable def cvbD (n:Nat) (h:Hps) (x:D):Rd:=match x with
  | .str t=>ifR (Nat.ble (lenL (strL t)) most) (.ok (.ms 1 n 0 (lenL (strL t)) false) n ((n,.row 1 (strL t))::h))
  | _ => .bad
inductive BL where
  | bad
  | ok (l:List Nat)
noncomputable def byte1 (d:D) (l:BL):BL:=match d with
  | .int k i => (match i with
    | .ofNat m => (match l with
      | .ok l=>Bool.rec (motive:=fun _=>BL) .bad (.ok (m::l)) (Bool.and (Nat.beq (kc k) 4) (Nat.blt m 256))
      | .bad => .bad)
    | .negSucc _ => .bad)
  | _ => .bad
noncomputable def bytesL (es:List D):BL:=List.rec (motive:=fun _=>BL) (.ok []) (fun d _ ih=>byte1 d ih) es
noncomputable def cbsB (n:Nat) (h:Hps) (l:BL):Rd:=match l with
  | .ok l => .ok (.str l) n h
  | .bad => .bad
noncomputable def cbsD (n:Nat) (h:Hps) (v:VL):Rd:=match v with
  | .ok k xs=>ifR (Nat.beq k 1) (cbsB n h (bytesL xs))
  | .bad => .bad
noncomputable def cbbR (n:Nat) (h:Hps) (x:D) (len:Nat) (o:Ob):Rd:=match o with
  | .row _ _=>ifR (Nat.blt 0 len) (.ok x n h)
  | _ => .bad
noncomputable def cbbD (n:Nat) (h:Hps) (x:D):Rd:=match x with
  | .ms k r off len full=>cbbR n h (.ms k r off len full) len (getO h r)
  | _ => .bad
noncomputable def natR (f:Nat→Rd):D→Rd
  | .int _ n => (match n with | .ofNat n=>f n | .negSucc _ => .bad)
  | _ => .bad
noncomputable def optN (env:Tr) (x:Option Opd) (dflt:Nat) (f:Nat→Rd):Rd:=match x with
  | some x=>natR f (ev env x)
  | none=>f dflt
noncomputable def slS (n:Nat) (h:Hps) (s:List Nat) (lo hi:Nat):Rd :=
  ifR (Bool.and (Nat.ble hi (lenN s)) (Nat.ble lo hi)) (.ok (.str (takeN (hi - lo) (dropN lo s))) n h)
noncomputable def slL (n:Nat) (h:Hps) (k:Nat) (es sp:List D) (full:Bool) (lo hi:Nat):Rd :=
  ifR (Bool.and (Nat.ble lo hi) (Nat.ble hi (lenL es+lenL sp))) (.ok (.sl k (takeL (hi - lo) (dropL lo (appL es sp))) (dropL hi (appL es sp)) (Bool.and full (Nat.beq hi (lenL es)))) n h)
noncomputable def slL3 (n:Nat) (h:Hps) (k:Nat) (es sp:List D) (lo hi mx:Nat):Rd :=
  ifR (Bool.and (Nat.ble lo hi) (Bool.and (Nat.ble hi mx) (Nat.ble mx (lenL es+lenL sp)))) (.ok (.sl k (takeL (hi - lo) (dropL lo (appL es sp))) (dropL hi (takeL mx (appL es sp))) (Nat.beq hi mx)) n h)
noncomputable def slM (n:Nat) (h:Hps) (k r off len:Nat) (full:Bool) (lo hi:Nat):Rd :=
  ifR (Bool.and (Nat.ble lo hi) (Bool.and (Nat.ble hi len) (Bool.or (Bool.not full) (Nat.beq hi len)))) (.ok (.ms k r (off+lo) (hi - lo) full) n h)
noncomputable def slM3 (n:Nat) (h:Hps) (k r off len:Nat) (lo hi mx:Nat):Rd :=
  ifR (Bool.and (Nat.ble lo hi) (Bool.and (Nat.beq hi mx) (Nat.ble mx len))) (.ok (.ms k r (off+lo) (hi - lo) true) n h)
noncomputable def slN (n:Nat) (h:Hps) (lo hi:Nat):Rd:=ifR (Bool.and (Nat.beq hi 0) (Nat.beq lo 0)) (.ok .nils n h)
noncomputable def slN3 (n:Nat) (h:Hps) (lo hi mx:Nat):Rd:=ifR (Bool.and (Nat.beq hi 0) (Bool.and (Nat.beq lo 0) (Nat.beq mx 0))) (.ok .nils n h)
noncomputable def slice3 (n:Nat) (h:Hps) (k:Nat) (env:Tr) (x:D) (lo hi mx:Option Opd):Rd:=match x with
  | .sl k' es sp _=>ifR (Nat.beq k k') (optN env lo 0 fun l=>optN env hi 0 fun u=>optN env mx 0 fun m=>slL3 n h k es sp l u m)
  | .ms k' r off len _=>ifR (Nat.beq k k') (optN env lo 0 fun l=>optN env hi 0 fun u=>optN env mx 0 fun m=>slM3 n h k r off len l u m)
  | .nils=>optN env lo 0 fun l=>optN env hi 0 fun u=>optN env mx 0 fun m=>slN3 n h l u m
  | _ => .bad
noncomputable def slice2 (n:Nat) (h:Hps) (k:Nat) (env:Tr) (x:D) (lo hi:Option Opd):Rd:=match x with
  | .sl k' es sp full=>ifR (Nat.beq k k') (optN env lo 0 fun l=>optN env hi (lenL es) fun u=>slL n h k es sp full l u)
  | .ms k' r off len full=>ifR (Nat.beq k k') (optN env lo 0 fun l=>optN env hi len fun u=>slM n h k r off len full l u)
  | .nils=>optN env lo 0 fun l=>optN env hi 0 fun u=>slN n h l u
  | _ => .bad
noncomputable def sliceD (n:Nat) (h:Hps) (k:Nat) (env:Tr) (x:D) (lo hi:Option Opd) (mx:Option Opd):Rd:=match mx with
  | none=>slice2 n h k env x lo hi
  | some m => (match hi with | some u=>slice3 n h k env x lo (some u) (some m) | none => .bad)

noncomputable def ssliceD (n:Nat) (h:Hps) (env:Tr) (x:D) (lo hi:Option Opd):Rd:=match x with
  | .str s=>optN env lo 0 fun l=>optN env hi (lenN s) fun u=>slS n h s l u
  | _ => .bad

noncomputable def iaddrD (n:Nat) (h:Hps) (k:Nat) (x:D) (i:Nat):Rd:=match x with
  | .sl k' es _ _=>ifR (Bool.and (Nat.blt i (lenL es)) (Nat.beq k k')) (.ok (.ip (nth es i) 0) n h)
  | .ms k' r off len _=>ifR (Bool.and (Nat.blt i len) (Nat.beq k k')) (.ok (.ptr r (off+i) 0) n h)
  | _ => .bad
def nthN:List Nat→Nat→Option Nat
  | [],_=>none
  | a::_,0=>some a
  | _::t,n+1=>nthN t n
def sidxD (n:Nat) (h:Hps) (x:D) (i:Nat):Rd:=match x with
  | .str s => (match nthN s i with | some b => .ok (.int .u8 (.ofNat b)) n h | none => .bad)
  | _ => .bad

noncomputable def aidxD (n:Nat) (h:Hps) (ag:Bool) (k m:Nat) (x:D) (i:Nat):Rd:=match x with
  | .agg cs=>ifR (Nat.blt i m) (okD n h (subA ag k (i*k) cs))
  | _ => .bad

inductive FK where
  | bad | none
  | some (d:D)
noncomputable def findK1 (ih:FK) (d:D):OB→FK
  | .ok b=>Bool.rec (motive:=fun _=>FK) ih (.some d) b
  | .bad => .bad
noncomputable def findK (t:EK) (k:D) (es:List (D×D)):FK:=List.rec (motive:=fun _=>FK) .none (fun p _ ih=>findK1 ih p.2 (eq1 t k p.1)) es
noncomputable def putK1 (k v:D) (p:D×D) (t ih:List (D×D)):OB→List (D×D)
  | .ok b=>Bool.rec (motive:=fun _=>List (D×D)) (p::ih) ((k,v)::t) b
  | .bad=>[]
noncomputable def putK (t:EK) (k v:D) (es:List (D×D)):List (D×D):=List.rec (motive:=fun _=>List (D×D)) [(k,v)] (fun p tl ih=>putK1 k v p tl ih (eq1 t k p.1)) es
noncomputable def okT (ok:Bool) (d:D) (b:Bool):D:=Bool.rec (motive:=fun _=>D) d (.tup [d,.bool b]) ok
noncomputable def lookF (n:Nat) (h:Hps) (z:D) (ok:Bool):FK→Rd
  | .bad => .bad
  | .none => .ok (okT ok z false) n h
  | .some d => .ok (okT ok d true) n h
noncomputable def lookR (n:Nat) (h:Hps) (t:EK) (z:D) (ok:Bool) (k:D):Ob→Rd
  | .map es=>lookF n h z ok (findK t k es)
  | _ => .bad
noncomputable def lookD (n:Nat) (h:Hps) (t:EK) (z:D) (ok:Bool) (k:D):D→Rd
  | .mp r=>lookR n h t z ok k (getO h r)
  | .nilm=>lookR n h t z ok k (.map [])
  | _ => .bad
noncomputable def mupdF (n:Nat) (h:Hps) (r:Nat) (es:List (D×D)):FK→Rd
  | .bad => .bad
  | _ => .ok .junk n (setO h r (.map es))
noncomputable def mupdR (n:Nat) (h:Hps) (t:EK) (r:Nat) (k x:D):Ob→Rd
  | .map es=>mupdF n h r (putK t k x es) (findK t k es)
  | _ => .bad
noncomputable def mupdD (n:Nat) (h:Hps) (t:EK) (k x:D):D→Rd
  | .mp r=>mupdR n h t r k x (getO h r)
  | _ => .bad

noncomputable def delK1 (p:D×D) (t ih:List (D×D)):OB→List (D×D)
  | .ok b=>Bool.rec (motive:=fun _=>List (D×D)) (p::ih) t b
  | .bad=>[]
noncomputable def delK (t:EK) (k:D) (es:List (D×D)):List (D×D):=List.rec (motive:=fun _=>List (D×D)) [] (fun p tl ih=>delK1 p tl ih (eq1 t k p.1)) es
noncomputable def mdelF (n:Nat) (h:Hps) (r:Nat) (es:List (D×D)):FK→Rd
  | .bad => .bad
  | _ => .ok (.tup []) n (setO h r (.map es))
noncomputable def mdelR (n:Nat) (h:Hps) (t:EK) (r:Nat) (k:D):Ob→Rd
  | .map es=>mdelF n h r (delK t k es) (findK t k es)
  | _ => .bad
noncomputable def mdelD (n:Nat) (h:Hps) (t:EK) (k:D):D→Rd
  | .mp r=>mdelR n h t r k (getO h r)
  | _ => .bad

noncomputable def cviD (n:Nat) (h:Hps) (k:IntKind):D→Rd
  | .int _ a => .ok (.int k (wr k a)) n h
  | _ => .bad
noncomputable def paddrD (n:Nat) (h:Hps) (k m:Nat) (x:D) (i:Nat):Rd:=match x with
  | .ptr r a j=>ifR (Nat.blt i m) (.ok (.ptr r a (j+i*k)) n h)
  | .ip e j=>ifR (Nat.blt i m) (.ok (.ip e (j+i*k)) n h)
  | _ => .bad
def lenI (n:Nat) (h:Hps) (l:Nat):Rd := .ok (.int .i64 (.ofNat l)) n h
def lenM (n:Nat) (h:Hps):Ob→Rd
  | .map es=>lenI n h es.length
  | _ => .bad
noncomputable def lenS (n:Nat) (h:Hps) (x:D):Rd:=match x with
  | .str s=>lenI n h (lenN s)
  | _ => .bad
noncomputable def lenC (n:Nat) (h:Hps) (x:D):Rd:=match x with
  | .nils=>lenI n h 0
  | .sl _ es _ _=>lenI n h (lenL es)
  | .ms _ _ _ len _=>lenI n h len
  | _ => .bad
noncomputable def lenT (n:Nat) (h:Hps) (x:D):Rd:=match x with
  | .mp r=>lenM n h (getO h r)
  | .nilm=>lenI n h 0
  | _ => .bad
noncomputable def lenD (n:Nat) (h:Hps) (t:EK) (x:D):Rd:=match t with
  | .str=>lenS n h x
  | .slice=>lenC n h x
  | .map=>lenT n h x
  | _ => .bad
noncomputable def pickD (n:Nat) (h:Hps) (a b:D):D→Rd
  | .bool t => .ok (Bool.rec (motive:=fun _=>D) b a t) n h
  | _ => .bad
def notD (n:Nat) (h:Hps):D→Rd
  | .bool t => .ok (.bool (Bool.not t)) n h
  | _ => .bad
noncomputable def negD (n:Nat) (h:Hps):D→Rd
  | .int k a => .ok (.int k (wr k (Int.sub (.ofNat 0) a))) n h
  | _ => .bad
def faddrD (n:Nat) (h:Hps) (off:Nat):D→Rd
  | .ptr r i j => .ok (.ptr r i (j+off)) n h
  | .ip e j => .ok (.ip e (j+off)) n h
  | _ => .bad
noncomputable def fldD (n:Nat) (h:Hps) (ag:Bool) (off k:Nat):D→Rd
  | .agg cs=>okD n h (subA ag k off cs)
  | _ => .bad
noncomputable def extD (n:Nat) (h:Hps) (i:Nat):D→Rd
  | .tup vs=>okD n h (nth vs i)
  | _ => .bad
def nilckD (n:Nat) (h:Hps) (x:D):Rd:=match x with
  | .ptr r i j => .ok (.ptr r i j) n h
  | .ip e j => .ok (.ip e j) n h
  | .fn f a c => .ok (.fn f a c) n h
  | _ => .bad
noncomputable def maxD (n:Nat) (h:Hps) (x y:D):Rd:=match x with
  | .int k a => (match y with | .int _ b => .ok (.int k (Bool.rec (motive:=fun _=>Int) a b (ltI a b))) n h | _ => .bad)
  | _ => .bad
noncomputable def minD (n:Nat) (h:Hps) (x y:D):Rd:=match x with
  | .int k a => (match y with | .int _ b => .ok (.int k (Bool.rec (motive:=fun _=>Int) a b (ltI b a))) n h | _ => .bad)
  | _ => .bad
noncomputable def repL (z:D) (n:Nat):List D:=Nat.rec (motive:=fun _=>List D) [] (fun _ ih=>z::ih) n
noncomputable def mkslD (n:Nat) (h:Hps) (k bytes:Nat) (z:D) (m:Nat):Rd:=ifR (Nat.ble (m*bytes) most) (.ok (.ms k n 0 m false) n ((n,.row k (repL z m))::h))
noncomputable def boxD (n:Nat) (h:Hps) (k:Nat) (d:D):Rd:=match d with
  | .junk => .bad
  | .tup _ => .bad
  | d=>ifR (Nat.beq k (lenL (cells d))) (.ok (.ptr n 0 0) n ((n,.row k [d])::h))
noncomputable def fld1 (k:Nat) (x:List D) (off:Nat) (l:Option (List D)):Option (List D):=match l with
  | some l=>Bool.rec (motive:=fun _=>Option (List D)) none (some (overwrite x off l)) (Bool.and (Nat.beq k (lenL x)) (Nat.ble (off+k) (lenL l)))
  | none=>none
def cellsX:D→Option (List D)
  | .junk=>none
  | .tup _=>none
  | .agg cs=>some cs
  | d=>some [d]
noncomputable def fld2 (k off:Nat) (l:Option (List D)):Option (List D)→Option (List D)
  | some x=>fld1 k x off l
  | none=>none
noncomputable def fillP (e:Tr) (ps:List (Nat×Nat×Opd)):Option (List D)→Option (List D):=List.rec (motive:=fun _=>Option (List D)→Option (List D)) (fun l=>l) (fun p _ ih l=>ih (fld2 p.2.1 p.1 l (cellsX (ev e p.2.2)))) ps
def buildD (n:Nat) (h:Hps):Option (List D)→Rd
  | some l => .ok (.agg l) n h
  | none => .bad
noncomputable def bslD (n:Nat) (h:Hps) (k:Nat) (l:List D):Rd:=Bool.rec (motive:=fun _=>Rd)
  (ifR (allL (okF k) l) (.ok (.ms k n 0 (lenL l) true) n ((n,.row k l)::h))) (.ok (.sl k l [] true) n h) (allL (okE k) l)

noncomputable def tasY (n:Nat) (h:Hps) (ok:Bool) (d:D):Rd:=match d with
  | .junk => .bad
  | d => .ok (okT ok d true) n h
noncomputable def tasN (n:Nat) (h:Hps) (ok:Bool) (z:D):Rd:=Bool.rec (motive:=fun _=>Rd) .bad (.ok (.tup [z,.bool false]) n h) ok
noncomputable def tasD (n:Nat) (h:Hps) (t:Nat) (ok:Bool) (z:D) (x:D):Rd:=match x with
  | .iface t' d=>Bool.rec (motive:=fun _=>Rd) (tasN n h ok z) (tasY n h ok d) (Nat.beq t t')
  | .nili=>tasN n h ok z
  | _ => .bad
def mrngR (n:Nat) (h:Hps) (q:Nat):Ob→Rd
  | .map _ => .ok (.ptr n 0 0) n ((n,.mit q)::h)
  | _ => .bad
noncomputable def mrngD (n:Nat) (h:Hps) (x:D):Rd:=match x with
  | .mp q=>mrngR n h q (getO h q)
  | _ => .bad

noncomputable def opD (e:Tr) (n:Nat) (h:Hps) (o:DOp):Rd:=match o with
  | .mv x => .ok (ev e x) n h
  | .pick c a b=>pickD n h (ev e a) (ev e b) (ev e c)
  | .new k z=>boxD n h k z
  | .box k x=>boxD n h k (ev e x)
  | .build zs ps=>buildD n h (fillP e ps (some zs))
  | .bsl k es=>bslD n h k (evs e es)
  | .load ag k a=>loadD ag k n h (ev e a)
  | .store ag k a x=>storeD ag k (ev e x) n h (ev e a)
  | .bin op x y=>okD n h (binD op (ev e x) (ev e y))
  | .cmp neg t x y=>obR n h neg (eqD t (ev e x) (ev e y))
  | .not x=>notD n h (ev e x)
  | .neg x=>negD n h (ev e x)
  | .faddr off x=>faddrD n h off (ev e x)
  | .fld ag off k x=>fldD n h ag off k (ev e x)
  | .iaddr k x i=>natR (iaddrD n h k (ev e x)) (ev e i)
  | .sidx x i=>natR (sidxD n h (ev e x)) (ev e i)
  | .aidx ag k m x i=>natR (aidxD n h ag k m (ev e x)) (ev e i)
  | .slice k x lo hi mx=>sliceD n h k e (ev e x) lo hi mx
  | .sslice x lo hi=>ssliceD n h e (ev e x) lo hi
  | .ext x i=>extD n h i (ev e x)
  | .mkfn f a c => .ok (.fn f (evs e a) (evs e c)) n h
  | .mksl k bytes z x=>natR (mkslD n h k bytes z) (ev e x)
  | .nilck x=>nilckD n h (ev e x)
  | .mkmap => .ok (.mp n) n ((n,.map [])::h)
  | .look t z ok m i=>lookD n h t z ok (ev e i) (ev e m)
  | .mupd t m k x=>mupdD n h t (ev e k) (ev e x) (ev e m)
  | .len t x=>lenD n h t (ev e x)
  | .app k bytes s x=>appD n h k bytes (ev e s) (view k h (ev e x))
  | .cvi k x=>cviD n h k (ev e x)
  | .paddr k m x i=>natR (paddrD n h k m (ev e x)) (ev e i)
  | .mdel t m k=>mdelD n h t (ev e k) (ev e m)
  | .max x y=>maxD n h (ev e x) (ev e y)
  | .min x y=>minD n h (ev e x) (ev e y)
  | .apps s x=>appsD n h (ev e s) (ev e x)
  | .cvb x=>cvbD n h (ev e x)
  | .cbs x=>cbsD n h (view 1 h (ev e x))
  | .cbb x=>cbbD n h (ev e x)
  | .mkif t x => .ok (.iface t (ev e x)) n h
  | .tas t ok z x=>tasD n h t ok z (ev e x)
  | .mrng x=>mrngD n h (ev e x)
  | .inv _ _ _ => .bad
  | .call _ _ => .bad
  | .bad => .bad

def rdO:Opd→List Po
  | .s p=>[p]
  | .k _=>[]
def rdOs:List Opd→List Po
  | []=>[]
  | x::t=>rdO x++rdOs t
def rdPs:List (Nat×Nat×Opd)→List Po
  | []=>[]
  | x::t=>rdO x.2.2++rdPs t
def rdM:Option Opd→List Po
  | some x=>rdO x
  | none=>[]
def rdOp:DOp→List Po
  | .mv x=>rdO x
  | .pick c a b=>rdO c ++ (rdO a++rdO b)
  | .new _ _=>[]
  | .box _ x=>rdO x
  | .build _ ps=>rdPs ps
  | .bsl _ es=>rdOs es
  | .load _ _ a=>rdO a
  | .store _ _ a x=>rdO a++rdO x
  | .bin _ x y=>rdO x++rdO y
  | .cmp _ _ x y=>rdO x++rdO y
  | .not x=>rdO x
  | .neg x=>rdO x
  | .faddr _ x=>rdO x
  | .fld _ _ _ x=>rdO x
  | .iaddr _ x i=>rdO x++rdO i
  | .sidx x i=>rdO x++rdO i
  | .aidx _ _ _ x i=>rdO x++rdO i
  | .slice _ x lo hi mx=>rdO x ++ (rdM lo ++ (rdM hi++rdM mx))
  | .sslice x lo hi=>rdO x ++ (rdM lo++rdM hi)
  | .ext x _=>rdO x
  | .mkfn _ a c=>rdOs a++rdOs c
  | .mksl _ _ _ x=>rdO x
  | .nilck x=>rdO x
  | .mkmap=>[]
  | .look _ _ _ m i=>rdO m++rdO i
  | .mupd _ m k x=>rdO m ++ (rdO k++rdO x)
  | .len _ x=>rdO x
  | .app _ _ s x=>rdO s++rdO x
  | .cvi _ x=>rdO x
  | .paddr _ _ x i=>rdO x++rdO i
  | .mdel _ m k=>rdO m++rdO k
  | .max x y=>rdO x++rdO y
  | .min x y=>rdO x++rdO y
  | .apps s x=>rdO s++rdO x
  | .cvb x=>rdO x
  | .cbs x=>rdO x
  | .cbb x=>rdO x
  | .mkif _ x=>rdO x
  | .tas _ _ _ x=>rdO x
  | .mrng x=>rdO x
  | .inv _ x args=>rdO x++rdOs args
  | .call f args=>rdO f++rdOs args
  | .bad=>[]
def rdG:Option (Po×Bool)→List Po
  | some p=>[p.1]
  | none=>[]
def wrD:Option Po→List Po
  | some p=>[p]
  | none=>[]
def rdP:DOper→List Po
  | .op _ g o=>rdG g++rdOp o
def wrP:DOper→List Po
  | .op d _ _=>wrD d

noncomputable def wantB (w:Bool):D→OB
  | .bool b => .ok (eqB w b)
  | .tup l => (match l with | [] => .ok false | _::_ => .bad)
  | _ => .bad
noncomputable def want (e:Tr) (g:Option (Po×Bool)):OB:=match g with
  | none => .ok true
  | some p=>wantB p.2 (get p.1 e)
noncomputable def putE (e:Tr) (dst:Option Po) (d:D):Tr:=match dst with
  | some p=>putT p d e
  | none=>e

abbrev CallF:=Nat→Hps→D→List D→Rd
abbrev RunF:=DCode→Tr→Nat→Hps→Re

def refO:D→List Nat
  | .ptr r _ _=>[r]
  | .ms _ r _ _ _=>[r]
  | .mp r=>[r]
  | _=>[]
noncomputable def touch (e:Tr) (n:Nat) (o:DOp):List Nat:=match o with
  | .load _ _ a=>refO (ev e a)
  | .store _ _ a _=>refO (ev e a)
  | .app _ _ s x=>n::appN (refO (ev e s)) (refO (ev e x))
  | .apps s _=>n::refO (ev e s)
  | .cvb _=>[n]
  | .cbs x=>refO (ev e x)
  | .cbb x=>refO (ev e x)
  | .look _ _ _ m _=>refO (ev e m)
  | .mupd _ m _ _=>refO (ev e m)
  | .mdel _ m _=>refO (ev e m)
  | .len _ x=>refO (ev e x)
  | .new _ _=>[n]
  | .box _ _=>[n]
  | .bsl _ _=>[n]
  | .mksl _ _ _ _=>[n]
  | .mkmap=>[n]
  | .mrng x=>n::refO (ev e x)
  | _=>[]
noncomputable def memN (r:Nat) (l:List Nat):Bool:=List.rec (motive:=fun _=>Bool) false (fun a _ ih=>Bool.rec (motive:=fun _=>Bool) ih true (Nat.beq a r)) l
noncomputable def disj (a b:List Nat):Bool:=List.rec (motive:=fun _=>Bool) true (fun x _ ih=>Bool.rec (motive:=fun _=>Bool) ih false (memN x b)) a
abbrev TW:=List Nat×Bool
noncomputable def nthT (l:List TW):Nat→TW:=List.rec (motive:=fun _=>Nat→TW) (fun _ => ([],false)) (fun a _ ih n=>Nat.rec (motive:=fun _=>TW) a (fun m _=>ih m) n) l
noncomputable def apart2 (t w:List Nat) (b:TW):Bool:=Bool.or (disj t b.1) (Bool.and b.2 (disj w b.1))
noncomputable def apartAll (t w:List Nat) (ts:List TW) (un:List Nat):Bool:=List.rec (motive:=fun _=>Bool) true (fun i _ ih=>Bool.rec (motive:=fun _=>Bool) false ih (apart2 t w (nthT ts i))) un
def stride:Nat:=1099511627776
noncomputable def inD0 (p:Nat→Bool) (ih:D→Bool) (d:D):Bool:=match d with
  | .ptr r _ _=>p r
  | .ms _ r _ _ _=>p r
  | .mp r=>p r
  | .yld r=>p r
  | .iface _ d=>ih d
  | .agg cs=>allL ih cs
  | .tup cs=>allL ih cs
  | .fn _ a c=>Bool.and (allL ih a) (allL ih c)
  | _=>true
noncomputable def inD (p:Nat→Bool) (fuel:Nat):D→Bool:=Nat.rec (motive:=fun _=>D→Bool) (fun _=>false) (fun _ ih d=>inD0 p ih d) fuel
noncomputable def inM (p:Nat→Bool) (es:List (D×D)):Bool:=List.rec (motive:=fun _=>Bool) true (fun x _ ih=>Bool.and (inD p 20 x.1) (Bool.and (inD p 20 x.2) ih)) es
noncomputable def inO (p:Nat→Bool):Ob→Bool
  | .none=>false
  | .row _ es=>allL (inD p 20) es
  | .map es=>inM p es
  | .mit q=>p q
  | .loop .. => false
noncomputable def inH (p:Nat→Bool) (h:Hps):Bool:=List.rec (motive:=fun _=>Bool) true (fun x _ ih=>Bool.and (p x.1) (Bool.and (inO p x.2) ih)) h
noncomputable def appH (a b:Hps):Hps:=List.rec (motive:=fun _=>Hps) b (fun p _ ih=>p::ih) a
noncomputable def rfL (ih:D→List Nat) (l:List D):List Nat:=List.rec (motive:=fun _=>List Nat) [] (fun d _ r=>appN (ih d) r) l
noncomputable def rd0 (ih:D→List Nat) (d:D):List Nat:=match d with
  | .ms _ r _ _ _=>[r]
  | .ptr r _ _=>[r]
  | .mp r=>[r]
  | .yld r=>[r]
  | .iface _ d=>ih d
  | .agg cs=>rfL ih cs
  | .tup cs=>rfL ih cs
  | .fn _ a c=>appN (rfL ih a) (rfL ih c)
  | _=>[]
noncomputable def rd (fuel:Nat):D→List Nat:=Nat.rec (motive:=fun _=>D→List Nat) (fun _=>[]) (fun _ ih d=>rd0 ih d) fuel
noncomputable def rdMp (es:List (D×D)):List Nat:=List.rec (motive:=fun _=>List Nat) [] (fun x _ ih=>appN (rd 20 x.1) (appN (rd 20 x.2) ih)) es
noncomputable def rdOb:Ob→List Nat
  | .row _ es=>rfL (rd 20) es
  | .map es=>rdMp es
  | .mit q=>[q]
  | _=>[]
noncomputable def reach (h:Hps) (fuel:Nat):List Nat→List Nat→List Nat:=Nat.rec (motive:=fun _=>List Nat→List Nat→List Nat) (fun _ seen=>seen)
  (fun _ ih todo seen=>List.rec (motive:=fun _=>List Nat) seen (fun r t _=>Bool.rec (motive:=fun _=>List Nat) (ih (appN (rdOb (getO h r)) t) (r::seen)) (ih t seen) (memN r seen)) todo) fuel
noncomputable def subH (R:List Nat) (h:Hps):Hps:=List.rec (motive:=fun _=>Hps) [] (fun r _ ih => (r,getO h r)::ih) R
noncomputable def remH (R:List Nat) (h:Hps):Hps:=List.rec (motive:=fun _=>Hps) h (fun r _ ih=>delO ih r) R
noncomputable def allN (p:Nat→Bool) (l:List Nat):Bool:=List.rec (motive:=fun _=>Bool) true (fun a _ ih=>Bool.and (p a) ih) l
noncomputable def ofR (R:List Nat) (s r:Nat):Bool:=Bool.or (Nat.ble s r) (memN r R)
noncomputable def pureC (R:List Nat) (n:Nat) (h:Hps) (f:D) (args:List D) (r:Rd):Rd:=match r with
  | .ok d n1 g=>ifR (Bool.and (allN (fun r=>Nat.ble r n) R) (Bool.and (inD (fun r=>memN r R) 20 f) (Bool.and (allL (inD (fun r=>memN r R) 20) args) (Bool.and (inH (fun r=>memN r R) (subH R h)) (Bool.and (inD (ofR R (n+1)) 20 d) (inH (ofR R (n+1)) g))))))
      (.ok d n1 (appH g (remH R h)))
  | .bad => .bad
noncomputable def rfM (ih:D→List Nat) (off len:Nat):Ob→List Nat
  | .row _ es=>rfL ih (takeL len (dropL off es))
  | _=>[]
noncomputable def rfP (ih:D→List Nat) (i:Nat):Ob→List Nat
  | .row _ es=>ih (nth es i)
  | _=>[]
noncomputable def rf0 (h:Hps) (ih:D→List Nat) (d:D):List Nat:=match d with
  | .ms _ r off len _=>r::rfM ih off len (getO h r)
  | .ptr r i _=>r::rfP ih i (getO h r)
  | .agg cs=>rfL ih cs
  | .tup cs=>rfL ih cs
  | .fn _ a c=>appN (rfL ih a) (rfL ih c)
  | _=>[]
noncomputable def rf (h:Hps) (fuel:Nat):D→List Nat:=Nat.rec (motive:=fun _=>D→List Nat) (fun _=>[]) (fun _ ih d=>rf0 h ih d) fuel
noncomputable def bare0 (ih:D→Bool) (d:D):Bool:=match d with
  | .int _ _=>true
  | .bool _=>true
  | .str _=>true
  | .agg cs=>allL ih cs
  | .tup cs=>allL ih cs
  | _=>false
noncomputable def bare (fuel:Nat):D→Bool:=Nat.rec (motive:=fun _=>D→Bool) (fun _=>false) (fun _ ih d=>bare0 ih d) fuel
noncomputable def snapC (n:Nat) (h:Hps) (f:D) (args:List D) (r:Rd):Rd:=match r with
  | .ok d n1 g => (match g with
    | []=>ifR (Bool.and (clo 20 f) (Bool.and (allL (clo 20) args) (bare 20 d))) (.ok d n1 h)
    | _::_ => .bad)
  | .bad => .bad
noncomputable def refsC (h:Hps) (f:D) (args:List D):List Nat:=appN (rf h 20 f) (rfL (rf h 20) args)
noncomputable def reachC (h:Hps) (args:List D) (f:D):List Nat:=reach h 4096 (appN (rfL (rd 20) args) (rd 20 f)) []
noncomputable def subC (call:CallF) (R:List Nat) (n:Nat) (h:Hps) (f:D) (args:List D):Rd:=pureC R n h f args (call (n+1) (subH R h) f args)
noncomputable def solo0 (l:List D) (b:Bool):Bool:=match l with
  | []=>b
  | _::_=>false
noncomputable def soloB (args:List D) (f:D):Bool:=match f with
  | .fn _ a c=>solo0 args (solo0 a (solo0 c true))
  | _=>false
noncomputable def callC (call:CallF) (n:Nat) (h:Hps) (f:D) (args:List D):Rd:=Bool.rec (motive:=fun _=>Rd) (call (n+1) h f args) (subC call [] n h f args) (soloB args f)
inductive MF where
  | none
  | some (f:Nat) (m:Option (Bool×Nat))
noncomputable def mthF (tb:List (Nat×Nat×Option (Bool×Nat))) (t:Nat):MF:=List.rec (motive:=fun _=>MF) .none (fun p _ ih=>Bool.rec (motive:=fun _=>MF) ih (.some p.2.1 p.2.2) (Nat.beq p.1 t)) tb
noncomputable def recvD (h:Hps) (d:D) (m:Option (Bool×Nat)):Rd:=match m with
  | none => .ok d 0 h
  | some p=>loadD p.1 p.2 0 h d
noncomputable def invR (call:CallF) (n:Nat) (h:Hps) (f:Nat) (args:List D):Rd→Rd
  | .ok d _ _=>call (n+1) h (.fn f [] []) (d::args)
  | .bad => .bad
noncomputable def invM (call:CallF) (n:Nat) (h:Hps) (d:D) (args:List D) (m:MF):Rd:=match m with
  | .some f m=>invR call n h f args (recvD h d m)
  | .none => .bad
noncomputable def invC (call:CallF) (n:Nat) (h:Hps) (tb:List (Nat×Nat×Option (Bool×Nat))) (args:List D) (x:D):Rd:=match x with
  | .iface t d=>invM call n h d args (mthF tb t)
  | _ => .bad
noncomputable def opC (call:CallF) (e:Tr) (n:Nat) (h:Hps) (o:DOp):Rd:=match o with
  | .call f args=>callC call n h (ev e f) (evs e args)
  | .inv tb x args=>invC call n h tb (evs e args) (ev e x)
  | o=>opD e n h o
noncomputable def afterOp (K:Tr→Nat→Hps→Re) (e:Tr) (dst:Option Po) (r:Rd):Re:=match r with
  | .ok d n h=>K (putE e dst d) (n+1) h
  | .bad => .bad
noncomputable def stepW (call:CallF) (K:Tr→Nat→Hps→Re) (e:Tr) (n:Nat) (h:Hps) (dst:Option Po) (o:DOp):OB→Re
  | .ok b=>Bool.rec (motive:=fun _=>Re) (K (putE e dst (.tup [])) (n+1) h) (afterOp K e dst (opC call e n h o)) b
  | .bad => .bad
noncomputable def stepO (call:CallF) (K:Tr→Nat→Hps→Re) (e:Tr) (n:Nat) (h:Hps) (o:DOper):Re:=match o with
  | .op dst g o=>stepW call K e n h dst o (want e g)
noncomputable def runOps (call:CallF) (l:List DOper):Tr→Nat→Hps→Re :=
  List.rec (motive:=fun _=>Tr→Nat→Hps→Re) (fun e n h => .ok .normal e n h) (fun o _ ih e n h=>stepO call ih e n h o) l

noncomputable def capC (call:CallF) (n:Nat) (h:Hps) (f:D) (args:List D) (l:List Nat):Rd:=match l with
  | []=>subC call [] n h f args
  | _::_=>snapC n h (frz h 0 20 f) (mapL (frz h 0 20) args) (call (n+1) [] (frz h 0 20 f) (mapL (frz h 0 20) args))
noncomputable def apartC (call:CallF) (n:Nat) (h:Hps) (f:D) (args:List D) (l:List Nat):Rd:=match l with
  | []=>capC call n h f args (rd 20 f)
  | _::_=>subC call (reachC h args f) n h f args
noncomputable def capR (h:Hps) (f:D) (args:List D) (l:List Nat):List Nat:=match l with
  | []=>[]
  | _::_=>refsC h f args
noncomputable def apartR (h:Hps) (f:D) (args:List D) (l:List Nat):List Nat:=match l with
  | []=>capR h f args (rd 20 f)
  | _::_=>reachC h args f
noncomputable def callP (call:CallF) (b:Bool) (n:Nat) (h:Hps) (f:D) (args:List D):Rd:=Bool.rec (motive:=fun _=>Rd) (apartC call n h f args (rfL (rd 20) args)) (call (n+1) h f args) b
noncomputable def opP (call:CallF) (b:Bool) (e:Tr) (n:Nat) (h:Hps) (o:DOp):Rd:=match o with
  | .call f args=>callP call b n h (ev e f) (evs e args)
  | .inv _ _ _ => .bad
  | o=>opD e n h o
noncomputable def sameL (ih:D→D→Bool) (l:List D):List D→Bool:=List.rec (motive:=fun _=>List D→Bool) (fun m=>List.rec (motive:=fun _=>Bool) true (fun _ _ _=>false) m)
  (fun a _ r m=>List.rec (motive:=fun _=>Bool) false (fun b t _=>Bool.rec (motive:=fun _=>Bool) false (r t) (ih a b)) m) l
noncomputable def sameD0 (ih:D→D→Bool) (a b:D):Bool:=match a with
  | .junk => (match b with | .junk=>true | _=>false)
  | .int k m => (match b with | .int k' m'=>Bool.and (Nat.beq (kc k) (kc k')) (eqI m m') | _=>false)
  | .bool x => (match b with | .bool y=>eqB x y | _=>false)
  | .str s => (match b with | .str s'=>eqN s s' | _=>false)
  | .nilp => (match b with | .nilp=>true | _=>false)
  | .nilf => (match b with | .nilf=>true | _=>false)
  | .nili => (match b with | .nili=>true | _=>false)
  | .nilm => (match b with | .nilm=>true | _=>false)
  | .nils => (match b with | .nils=>true | _=>false)
  | .ptr r i j => (match b with | .ptr r' i' j'=>Bool.and (Nat.beq r r') (Bool.and (Nat.beq i i') (Nat.beq j j')) | _=>false)
  | .ip e j => (match b with | .ip e' j'=>Bool.and (Nat.beq j j') (ih e e') | _=>false)
  | .sl k es sp f => (match b with | .sl k' es' sp' f'=>Bool.and (Nat.beq k k') (Bool.and (eqB f f') (Bool.and (sameL ih es es') (sameL ih sp sp'))) | _=>false)
  | .ms k r o l f => (match b with | .ms k' r' o' l' f'=>Bool.and (Nat.beq k k') (Bool.and (Nat.beq r r') (Bool.and (Nat.beq o o') (Bool.and (Nat.beq l l') (eqB f f')))) | _=>false)
  | .mp r => (match b with | .mp r'=>Nat.beq r r' | _=>false)
  | .yld r => (match b with | .yld r'=>Nat.beq r r' | _=>false)
  | .fn f x c => (match b with | .fn f' x' c'=>Bool.and (Nat.beq f f') (Bool.and (sameL ih x x') (sameL ih c c')) | _=>false)
  | .iface t d => (match b with | .iface t' d'=>Bool.and (Nat.beq t t') (ih d d') | _=>false)
  | .agg cs => (match b with | .agg cs'=>sameL ih cs cs' | _=>false)
  | .tup cs => (match b with | .tup cs'=>sameL ih cs cs' | _=>false)
noncomputable def sameD (fuel:Nat):D→D→Bool:=Nat.rec (motive:=fun _=>D→D→Bool) (fun _ _=>false) (fun _ ih a b=>sameD0 ih a b) fuel
noncomputable def sameT (us:List Po) (a b:Tr):Bool:=List.rec (motive:=fun _=>Bool) true (fun p _ ih=>Bool.and (sameD 1000 (get p a) (get p b)) ih) us
noncomputable def sameM (a:List (D×D)):List (D×D)→Bool:=List.rec (motive:=fun _=>List (D×D)→Bool) (fun m=>List.rec (motive:=fun _=>Bool) true (fun _ _ _=>false) m)
  (fun p _ r m=>List.rec (motive:=fun _=>Bool) false (fun q t _=>Bool.and (sameD 1000 p.1 q.1) (Bool.and (sameD 1000 p.2 q.2) (r t))) m) a
noncomputable def sameO (a b:Ob):Bool:=match a with
  | .none => (match b with | .none=>true | _=>false)
  | .row k es => (match b with | .row k' es'=>Bool.and (Nat.beq k k') (sameL (sameD 1000) es es') | _=>false)
  | .map es => (match b with | .map es'=>sameM es es' | _=>false)
  | .mit q => (match b with | .mit q'=>Nat.beq q q' | _=>false)
  | .loop .. => false
noncomputable def keysFrom (n:Nat) (h:Hps):List Nat:=List.rec (motive:=fun _=>List Nat) [] (fun p _ ih=>Bool.rec (motive:=fun _=>List Nat) ih (p.1::ih) (Nat.ble n p.1)) h
noncomputable def touchR (e:Tr) (n:Nat) (o:DOp) (h h1:Hps):List Nat:=match o with
  | .call f args=>appN (apartR h (ev e f) (evs e args) (rfL (rd 20) (evs e args))) (keysFrom n h1)
  | o=>touch e n o
noncomputable def changed (h h1:Hps) (T:List Nat):List Nat:=List.rec (motive:=fun _=>List Nat) [] (fun r _ ih=>Bool.rec (motive:=fun _=>List Nat) (r::ih) ih (sameO (getO h r) (getO h1 r))) T
def rdo:DOp→Bool
  | .load .. => true
  | .look .. => true
  | .len .. => true
  | _=>false
def wk:DOp→Nat
  | .load .. => 0
  | .look .. => 0
  | .len .. => 0
  | .call .. => 2
  | _=>1
noncomputable def writR (o:DOp) (T:List Nat) (h h1:Hps):List Nat:=Nat.rec (motive:=fun _=>List Nat) [] (fun m _=>Nat.rec (motive:=fun _=>List Nat) T (fun _ _=>changed h h1 T) m) (wk o)
noncomputable def drawK (sd:Nat) (K:List TW→Tr→Nat→Hps→Re) (ts:List TW) (e:Tr) (n:Nat) (h:Hps) (un:List Nat) (dst:Option Po) (o:DOp):Rd→Re
  | .ok d n1 h1=>Bool.rec (motive:=fun _=>Re) .bad (K ((touchR e n o h h1,rdo o)::ts) (putE e dst d) (n+sd) h1) (Bool.and (Nat.blt n1 (n+sd)) (apartAll (touchR e n o h h1) (writR o (touchR e n o h h1) h h1) ts un))
  | .bad => .bad
noncomputable def stepQ (sd:Nat) (call:CallF) (K:List TW→Tr→Nat→Hps→Re) (b:Bool) (ts:List TW) (e:Tr) (n:Nat) (h:Hps) (un:List Nat) (dst:Option Po) (o:DOp):OB→Re
  | .ok t=>Bool.rec (motive:=fun _=>Re) (K (([],false)::ts) (putE e dst (.tup [])) (n+sd) h) (drawK sd K ts e n h un dst o (opP call b e n h o)) t
  | .bad => .bad
noncomputable def stepP (sd:Nat) (call:CallF) (K:List TW→Tr→Nat→Hps→Re) (b:Bool) (ts:List TW) (e:Tr) (n:Nat) (h:Hps) (un:List Nat) (o:DOper):Re:=match o with
  | .op dst g o=>stepQ sd call K b ts e n h un dst o (want e g)
noncomputable def runDraw (sd:Nat) (call:CallF) (l:List DOper):List (List Nat)→List Bool→List TW→Tr→Nat→Hps→Re :=
  List.rec (motive:=fun _=>List (List Nat)→List Bool→List TW→Tr→Nat→Hps→Re) (fun _ _ _ e n h => .ok .normal e n h)
    (fun o _ ih un bar ts e n h=>List.rec (motive:=fun _=>Re) .bad (fun u ut _=>List.rec (motive:=fun _=>Re) .bad (fun b bt _=>stepP sd call (ih ut bt) b ts e n h u o) bar) un) l

noncomputable def res1 (h:Hps) (e:Tr) (r:RV):Rd:=match r with
  | .tmp p => .ok (get p e) 0 []
  | .cell p ag k=>loadD ag k 0 h (get p e)
inductive RL where
  | bad
  | ok (l:List D)
noncomputable def resC (r:Rd) (l:RL):RL:=match r with
  | .ok d _ _ => (match l with | .ok l => .ok (d::l) | .bad => .bad)
  | .bad => .bad
noncomputable def resL (h:Hps) (e:Tr) (l:List RV):RL:=List.rec (motive:=fun _=>RL) (.ok []) (fun a _ ih=>resC (res1 h e a) ih) l
def tupD (l:List D):D:=match l with
  | [] => .tup []
  | d::t => (match t with
    | []=>d
    | x::y => .tup (d::x::y))

noncomputable def argsT (l:List D):List Po→Tr:=List.rec (motive:=fun _=>List Po→Tr) (fun _ => .lf) (fun d _ ih ps=>List.rec (motive:=fun _=>Tr) .lf (fun p pt _=>putT p d (ih pt)) ps) l
noncomputable def putAll (ps:List Po):List D→Tr→Re:=List.rec (motive:=fun _=>List D→Tr→Re) (fun ds e=>match ds with | [] => .ok .normal e 0 [] | _::_ => .bad)
  (fun p _ ih ds e=>List.rec (motive:=fun _=>Re) .bad (fun d dt _=>ih dt (putT p d e)) ds) ps

structure DFn where
  body:DCode
  ps:List Po
  res:List RV
  keep:Bool

noncomputable def hasJ0 (ih:D→Bool) (d:D):Bool:=match d with
  | .junk=>true
  | .agg cs=>Bool.not (allL (fun d=>Bool.not (ih d)) cs)
  | .tup cs=>Bool.not (allL (fun d=>Bool.not (ih d)) cs)
  | .fn _ a c=>Bool.not (Bool.and (allL (fun d=>Bool.not (ih d)) a) (allL (fun d=>Bool.not (ih d)) c))
  | _=>false
noncomputable def hasJ (fuel:Nat):D→Bool:=Nat.rec (motive:=fun _=>D→Bool) (fun _=>true) (fun _ ih d=>hasJ0 ih d) fuel
noncomputable def finishF (n0 n:Nat) (h:Hps) (d d':D):Rd:=Bool.rec (motive:=fun _=>Rd) (.ok d' n0 (dropFrom n0 h)) (.ok d n h) (Bool.or (hasJ 20 d') (hasR n0 20 d'))
noncomputable def finishD (n0 n:Nat) (h:Hps) (d:D):Rd:=Bool.rec (motive:=fun _=>Rd) (finishF n0 n h d (frz h n0 60 d)) (.ok d n h) (Bool.or (hasP n0 20 d) (leak n0 h))
noncomputable def finishL (n0 n:Nat) (h:Hps):RL→Rd
  | .ok l=>finishD n0 n h (tupD l)
  | .bad => .bad
noncomputable def finishE (n0:Nat) (rv:List RV) (e:Tr) (n:Nat) (h:Hps):Ex→Rd
  | .exit _ => .bad
  | _=>finishL n0 n h (resL h e rv)
noncomputable def finish (n0:Nat) (rv:List RV):Re→Rd
  | .ok x e n h=>finishE n0 rv e n h x
  | .bad => .bad
noncomputable def idxN (l:List Nat) (r:Nat):Nat:=List.rec (motive:=fun _=>Nat) 0 (fun a _ ih=>Bool.rec (motive:=fun _=>Nat) (Nat.succ ih) 0 (Nat.beq a r)) l
noncomputable def rn0 (n0:Nat) (l:List Nat) (ih:D→D) (d:D):D:=match d with
  | .ms k r off len full=>Bool.rec (motive:=fun _=>D) (.ms k (n0+idxN l r) off len full) (.ms k r off len full) (Nat.blt r n0)
  | .ptr r i j=>Bool.rec (motive:=fun _=>D) .junk (.ptr r i j) (Nat.blt r n0)
  | .mp r=>Bool.rec (motive:=fun _=>D) .junk (.mp r) (Nat.blt r n0)
  | .yld r=>Bool.rec (motive:=fun _=>D) .junk (.yld r) (Nat.blt r n0)
  | .fn f a c=>Bool.rec (motive:=fun _=>D) (.fn f a c) .junk (hasR n0 20 (.fn f a c))
  | .iface t x=>Bool.rec (motive:=fun _=>D) (.iface t x) .junk (hasR n0 20 (.iface t x))
  | .agg cs => .agg (mapL ih cs)
  | .tup cs => .tup (mapL ih cs)
  | d=>d
noncomputable def rn (n0:Nat) (l:List Nat) (fuel:Nat):D→D:=Nat.rec (motive:=fun _=>D→D) (fun _ => .junk) (fun _ ih d=>rn0 n0 l ih d) fuel
noncomputable def fromN (n0:Nat) (l:List Nat):List Nat:=List.rec (motive:=fun _=>List Nat) [] (fun a _ ih=>Bool.rec (motive:=fun _=>List Nat) (Bool.rec (motive:=fun _=>List Nat) (a::ih) ih (memN a ih)) ih (Nat.blt a n0)) l
noncomputable def closedO:Ob→Bool
  | .row k es=>allL (okE k) es
  | _=>false
noncomputable def newH (h h0:Hps) (l:List Nat) (n:Nat):Hps := (List.rec (motive:=fun _=>Nat→Hps) (fun _=>h0) (fun r _ ih n => (n,getO h r)::ih (n+1)) l) n
noncomputable def keepL (n0 n:Nat) (h:Hps) (d:D) (l:List Nat):Rd:=Bool.rec (motive:=fun _=>Rd) (.ok d n h) (.ok (rn n0 l 20 d) (n0+lenN l) (newH h (dropFrom n0 h) l n0))
  (Bool.and (allN (fun r=>Bool.and (Nat.ble n0 r) (closedO (getO h r))) l) (Bool.and (inD (fun r=>Bool.or (Nat.blt r n0) (memN r l)) 20 d) (Bool.and (Bool.not (hasJ 20 (rn n0 l 20 d))) (Bool.not (leak n0 h)))))
noncomputable def keepD (n0 n:Nat) (h:Hps) (d:D):Rd:=keepL n0 n h d (fromN n0 (rd 20 d))
noncomputable def finKL (n0 n:Nat) (h:Hps):RL→Rd
  | .ok l=>keepD n0 n h (tupD l)
  | .bad => .bad
noncomputable def finKE (n0:Nat) (rv:List RV) (e:Tr) (n:Nat) (h:Hps):Ex→Rd
  | .exit _ => .bad
  | _=>finKL n0 n h (resL h e rv)
noncomputable def finK (n0:Nat) (rv:List RV):Re→Rd
  | .ok x e n h=>finKE n0 rv e n h x
  | .bad => .bad
noncomputable def fin (kp:Bool) (n0:Nat) (rv:List RV) (r:Re):Rd:=Bool.rec (motive:=fun _=>Rd) (finish n0 rv r) (finK n0 rv r) kp
noncomputable def endRound (r k:Nat) (env:Tr) (ps:List Po) (a b:DCode) (n:Nat) (h:Hps):Ex→Rd
  | .normal => .ok (.bool true) n ((r,.loop k env ps a b .none)::h)
  | .exit i => .ok (.bool false) n ((r,.loop k env ps a b (.exit i))::h)
  | .ret => .ok (.bool false) n ((r,.loop k env ps a b .ret)::h)
noncomputable def lastRound (r k:Nat) (env:Tr) (ps:List Po) (a b:DCode):Re→Rd
  | .ok x _ n h=>endRound r k env ps a b n h x
  | .bad => .bad
noncomputable def midRound (X:RunF) (r k:Nat) (env:Tr) (ps:List Po) (a b:DCode):Re→Rd
  | .ok x e n h => (match x with | .normal=>lastRound r k env ps a b (X b e n h) | _ => .bad)
  | .bad => .bad
noncomputable def begRound (X:RunF) (r k n:Nat) (h:Hps) (env:Tr) (ps:List Po) (a b:DCode):Re→Rd
  | .ok _ e _ _=>midRound X r k env ps a b (X a e n (delO h r))
  | .bad => .bad
noncomputable def isSkip:Jp→Bool
  | .none=>true
  | _=>false
noncomputable def round (X:RunF) (r n:Nat) (h:Hps) (args:List D):Ob→Rd
  | .loop k env ps a b j=>ifR (isSkip j) (begRound X r k n h env ps a b (putAll ps args env))
  | _ => .bad
noncomputable def lenP (l:List Po):Nat:=List.rec (motive:=fun _=>Nat) 0 (fun _ _ ih=>Nat.succ ih) l
noncomputable def callFn (X:RunF) (n:Nat) (h:Hps) (args:List D) (f:DFn):Rd:=ifR (Nat.beq (lenL args) (lenP f.ps)) (fin f.keep n f.res (X f.body (argsT args f.ps) n h))
noncomputable def callX (F:Nat→DFn) (X:RunF) (n:Nat) (h:Hps) (f:D) (args:List D):Rd:=match f with
  | .fn g a c=>callFn X n h (appL a (appL args c)) (F g)
  | .yld r=>round X r n h args (getO h r)
  | _ => .bad

noncomputable def seqE (X:RunF) (b:DCode) (e:Tr) (n:Nat) (h:Hps):Ex→Re
  | .normal=>X b e n h
  | .exit i => .ok (.exit i) e n h
  | .ret => .ok .ret e n h
noncomputable def seqR (X:RunF) (b:DCode) (r:Re):Re:=match r with
  | .ok ex e n h=>seqE X b e n h ex
  | .bad => .bad
noncomputable def condR (X:RunF) (a b:DCode) (e:Tr) (n:Nat) (h:Hps):D→Re
  | .bool t=>X (Bool.rec (motive:=fun _=>DCode) b a t) e n h
  | _ => .bad
noncomputable def blockE (i:Nat) (e:Tr) (n:Nat) (h:Hps):Ex→Re
  | .normal => .ok .normal e n h
  | .exit j=>Bool.rec (motive:=fun _=>Re) (.ok (.exit j) e n h) (.ok .normal e n h) (Nat.beq j i)
  | .ret => .ok .ret e n h
noncomputable def blockR (i:Nat) (r:Re):Re:=match r with
  | .ok ex e n h=>blockE i e n h ex
  | .bad => .bad
noncomputable def afterJp (e:Tr) (n:Nat) (h:Hps):Jp→Re
  | .none => .ok .normal e n h
  | .exit i => .ok (.exit i) e n h
  | .ret => .ok .ret e n h
noncomputable def afterRng (e:Tr) (r n:Nat) (h:Hps):Ob→Re
  | .loop _ _ _ _ _ j=>afterJp e n (delO h r) j
  | _ => .bad
noncomputable def rngK (e:Tr) (r:Nat) (x:Rd):Re:=match x with
  | .ok _ n h=>afterRng e r n h (getO h r)
  | .bad => .bad
noncomputable def rngF (F:Nat→DFn) (X:RunF) (e:Tr) (n:Nat) (h:Hps) (ps:List Po) (a b:DCode) (f:D):Re:=match f with
  | .fn g x c=>rngK e n (callFn X (n+1) ((n,.loop n e ps a b .none)::h) (appL x (.yld n::c)) (F g))
  | _ => .bad
noncomputable def onlyT (us:List Po) (e:Tr):Tr:=List.rec (motive:=fun _=>Tr) .lf (fun p _ ih=>putT p (get p e) ih) us
noncomputable def sameH (a:Hps):Hps→Bool:=List.rec (motive:=fun _=>Hps→Bool) (fun m=>List.rec (motive:=fun _=>Bool) true (fun _ _ _=>false) m)
  (fun p _ r m=>List.rec (motive:=fun _=>Bool) false (fun q t _=>Bool.and (Nat.beq p.1 q.1) (Bool.and (sameO p.2 q.2) (r t))) m) a
noncomputable def lowT (us:List Po) (n:Nat) (t:Tr):Bool:=List.rec (motive:=fun _=>Bool) true (fun p _ ih=>Bool.and (Bool.not (hasR n 20 (get p t))) ih) us
noncomputable def step (F:Nat→DFn) (X:RunF) (c:DCode) (e:Tr) (n:Nat) (h:Hps):Re:=match c with
  | .skip => .ok .normal e n h
  | .ret => .ok .ret e n h
  | .bad => .bad
  | .exit i => .ok (.exit i) e n h
  | .seq a b=>seqR X b (X a e n h)
  | .cond c a b=>condR X a b e n h (ev e c)
  | .block i b=>blockR i (X b e n h)
  | .loop b=>seqR X (.loop b) (X b e n h)
  | .scope b=>X b e n h
  | .reg ops=>runOps (callX F X) ops e n h
  | .draw un bar ops=>runDraw stride (callX F X) ops un bar [] e n h
  | .rng f ps a b=>rngF F X e n h ps a b (ev e f)
noncomputable def exec (F:Nat→DFn) (fuel:Nat):RunF:=Nat.rec (motive:=fun _=>RunF) (fun _ _ _ _ => .bad) (fun _ X=>step F X) fuel

end Go.Proofs.Ytpbpmpabndgeeaa
