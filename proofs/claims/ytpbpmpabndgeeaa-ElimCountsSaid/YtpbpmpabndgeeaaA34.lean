/- Slices as Lean's lists; what a function may leave alone; a call's end. No condition. -/
import Derived.Test.YtpbpmpabndgeeaaA32

/- The run without fuel,step by step: the equations by which a run over data with names in it goes on. No condition. -/
set_option linter.unusedSimpArgs false
set_option linter.unusedVariables false
namespace Go.Proofs.Ytpbpmpabndgeeaa
open Go

theorem eqOf {α:Type} {a b:α} (h:a=b):a=b:=by cases h; exact Eq.refl a

section
variable {F:Nat→DFn} {call:CallF} {e:Tr} {n:Nat} {h:Hps}

theorem LX_skip:LX F .skip e n h = .ok .normal e n h:=by rw [LX_eq]; rfl
theorem LX_ret:LX F .ret e n h = .ok .ret e n h:=by rw [LX_eq]; rfl
theorem LX_exit {i:Nat}:LX F (.exit i) e n h = .ok (.exit i) e n h:=by rw [LX_eq]; rfl
theorem LX_seq {a b:DCode}:LX F (.seq a b) e n h=seqR (LX F) b (LX F a e n h):=by rw [LX_eq]; rfl
theorem LX_cond {c:Opd} {a b:DCode}:LX F (.cond c a b) e n h=condR (LX F) a b e n h (ev e c):=by rw [LX_eq]; rfl
theorem LX_block {i:Nat} {b:DCode}:LX F (.block i b) e n h=blockR i (LX F b e n h):=by rw [LX_eq]; rfl
theorem LX_loop {b:DCode}:LX F (.loop b) e n h=seqR (LX F) (.loop b) (LX F b e n h):=by rw [LX_eq]; rfl
theorem LX_scope {b:DCode}:LX F (.scope b) e n h=LX F b e n h:=by rw [LX_eq]; rfl
theorem LX_reg {ops:List DOper}:LX F (.reg ops) e n h=runOps (callX F (LX F)) ops e n h:=by rw [LX_eq]; rfl
theorem LX_draw {un:List (List Nat)} {bar:List Bool} {ops:List DOper}:LX F (.draw un bar ops) e n h=runDraw stride (callX F (LX F)) ops un bar [] e n h:=by rw [LX_eq]; rfl
theorem LX_rng {f:Opd} {ps:List Po} {a b:DCode}:LX F (.rng f ps a b) e n h=rngF F (LX F) e n h ps a b (ev e f):=by rw [LX_eq]; rfl

theorem seqR_normal {X:RunF} {b:DCode}:seqR X b (.ok .normal e n h)=X b e n h:=eqOf rfl
theorem seqR_exit {X:RunF} {b:DCode} {i:Nat}:seqR X b (.ok (.exit i) e n h) = .ok (.exit i) e n h:=eqOf rfl
theorem seqR_ret {X:RunF} {b:DCode}:seqR X b (.ok .ret e n h) = .ok .ret e n h:=eqOf rfl
theorem condR_true {X:RunF} {a b:DCode}:condR X a b e n h (.bool true)=X a e n h:=eqOf rfl
theorem condR_false {X:RunF} {a b:DCode}:condR X a b e n h (.bool false)=X b e n h:=eqOf rfl
theorem blockR_normal {i:Nat}:blockR i (.ok .normal e n h) = .ok .normal e n h:=eqOf rfl
theorem blockR_ret {i:Nat}:blockR i (.ok .ret e n h) = .ok .ret e n h:=eqOf rfl
theorem blockR_exit {i j:Nat}:blockR i (.ok (.exit j) e n h)=if j=i then .ok .normal e n h else .ok (.exit j) e n h:=by
  show Bool.rec (motive:=fun _=>Re) (.ok (.exit j) e n h) (.ok .normal e n h) (Nat.beq j i)=_
  exact beq_rec _ _ _ _

theorem runOps_nil:runOps call [] e n h = .ok .normal e n h:=eqOf rfl
theorem runOps_none {dst:Option Po} {o:DOp} {l:List DOper}:runOps call (.op dst none o::l) e n h=afterOp (runOps call l) e dst (opC call e n h o):=eqOf rfl
theorem runOps_some {dst:Option Po} {g:Po×Bool} {o:DOp} {l:List DOper}:runOps call (.op dst (some g) o::l) e n h=stepW call (runOps call l) e n h dst o (wantB g.2 (get g.1 e)):=eqOf rfl
theorem stepW_true {K:Tr→Nat→Hps→Re} {dst:Option Po} {o:DOp}:stepW call K e n h dst o (.ok true)=afterOp K e dst (opC call e n h o):=eqOf rfl
theorem stepW_false {K:Tr→Nat→Hps→Re} {dst:Option Po} {o:DOp}:stepW call K e n h dst o (.ok false)=K (putE e dst (.tup [])) (n+1) h:=eqOf rfl
theorem wantB_bool {w b:Bool}:wantB w (.bool b) = .ok (w == b):=by
  show OB.ok (eqB w b)=_
  rw [eqB_eq]
theorem wantB_tup {w:Bool}:wantB w (.tup []) = .ok false:=eqOf rfl
theorem after_ok {K:Tr→Nat→Hps→Re} {dst:Option Po} {d:D} {m:Nat} {g:Hps}:afterOp K e dst (.ok d m g)=K (putE e dst d) (m+1) g:=eqOf rfl
theorem putE_some {p:Po} {d:D}:putE e (some p) d=putT p d e:=eqOf rfl
theorem putE_none {d:D}:putE e none d=e:=eqOf rfl
theorem ev_s {p:Po}:ev e (.s p)=get p e:=eqOf rfl
theorem ev_k {d:D}:ev e (.k d)=d:=eqOf rfl
theorem evs_nil:evs e []=[]:=eqOf rfl
theorem get_po {a b:Nat} {d:D} (ha:a < 1048576) (hb:b < 1048576):get (po a) (putT (po b) d e)=if a=b then d else get (po a) e:=by
  by_cases hab:a=b
  · rw [if_pos hab,hab,get_put_same]
  · rw [if_neg hab,get_put_ne _ _ _ _ (fun h=>hab (po_inj ha hb h))]

theorem opC_mv {x:Opd}:opC call e n h (.mv x) = .ok (ev e x) n h:=eqOf rfl
theorem opC_pick {c a b:Opd}:opC call e n h (.pick c a b)=pickD n h (ev e a) (ev e b) (ev e c):=eqOf rfl
theorem opC_new {k:Nat} {z:D}:opC call e n h (.new k z)=boxD n h k z:=eqOf rfl
theorem opC_box {k:Nat} {x:Opd}:opC call e n h (.box k x)=boxD n h k (ev e x):=eqOf rfl
theorem opC_build {zs:List D} {ps:List (Nat×Nat×Opd)}:opC call e n h (.build zs ps)=buildD n h (fillP e ps (some zs)):=eqOf rfl
theorem opC_bsl {k:Nat} {es:List Opd}:opC call e n h (.bsl k es)=bslD n h k (evs e es):=eqOf rfl
theorem opC_load {ag:Bool} {k:Nat} {a:Opd}:opC call e n h (.load ag k a)=loadD ag k n h (ev e a):=eqOf rfl
theorem opC_store {ag:Bool} {k:Nat} {a x:Opd}:opC call e n h (.store ag k a x)=storeD ag k (ev e x) n h (ev e a):=eqOf rfl
theorem opC_bin {op:BinOp} {x y:Opd}:opC call e n h (.bin op x y)=okD n h (binD op (ev e x) (ev e y)):=eqOf rfl
theorem opC_cmp {b:Bool} {t:EK} {x y:Opd}:opC call e n h (.cmp b t x y)=obR n h b (eqD t (ev e x) (ev e y)):=eqOf rfl
theorem opC_not {x:Opd}:opC call e n h (.not x)=notD n h (ev e x):=eqOf rfl
theorem opC_neg {x:Opd}:opC call e n h (.neg x)=negD n h (ev e x):=eqOf rfl
theorem opC_faddr {off:Nat} {x:Opd}:opC call e n h (.faddr off x)=faddrD n h off (ev e x):=eqOf rfl
theorem opC_fld {ag:Bool} {off k:Nat} {x:Opd}:opC call e n h (.fld ag off k x)=fldD n h ag off k (ev e x):=eqOf rfl
theorem opC_iaddr {k:Nat} {x i:Opd}:opC call e n h (.iaddr k x i)=natR (iaddrD n h k (ev e x)) (ev e i):=eqOf rfl
theorem opC_sidx {x i:Opd}:opC call e n h (.sidx x i)=natR (sidxD n h (ev e x)) (ev e i):=eqOf rfl
theorem opC_aidx {ag:Bool} {k m:Nat} {x i:Opd}:opC call e n h (.aidx ag k m x i)=natR (aidxD n h ag k m (ev e x)) (ev e i):=eqOf rfl
theorem opC_slice {k:Nat} {x:Opd} {lo hi mx:Option Opd}:opC call e n h (.slice k x lo hi mx)=sliceD n h k e (ev e x) lo hi mx:=eqOf rfl
theorem opC_sslice {x:Opd} {lo hi:Option Opd}:opC call e n h (.sslice x lo hi)=ssliceD n h e (ev e x) lo hi:=eqOf rfl
theorem opC_ext {x:Opd} {i:Nat}:opC call e n h (.ext x i)=extD n h i (ev e x):=eqOf rfl
theorem opC_mkfn {f:Nat} {a c:List Opd}:opC call e n h (.mkfn f a c) = .ok (.fn f (evs e a) (evs e c)) n h:=eqOf rfl
theorem opC_mksl {k b:Nat} {z:D} {x:Opd}:opC call e n h (.mksl k b z x)=natR (mkslD n h k b z) (ev e x):=eqOf rfl
theorem opC_nilck {x:Opd}:opC call e n h (.nilck x)=nilckD n h (ev e x):=eqOf rfl
theorem opC_mkmap:opC call e n h .mkmap = .ok (.mp n) n ((n,.map [])::h):=eqOf rfl
theorem opC_look {t:EK} {z:D} {ok:Bool} {m i:Opd}:opC call e n h (.look t z ok m i)=lookD n h t z ok (ev e i) (ev e m):=eqOf rfl
theorem opC_cvi {k:IntKind} {x:Opd}:opC call e n h (.cvi k x)=cviD n h k (ev e x):=eqOf rfl
theorem opC_paddr {k m:Nat} {x i:Opd}:opC call e n h (.paddr k m x i)=natR (paddrD n h k m (ev e x)) (ev e i):=eqOf rfl
theorem opC_mdel {t:EK} {m k:Opd}:opC call e n h (.mdel t m k)=mdelD n h t (ev e k) (ev e m):=eqOf rfl
theorem opC_mupd {t:EK} {m k x:Opd}:opC call e n h (.mupd t m k x)=mupdD n h t (ev e k) (ev e x) (ev e m):=eqOf rfl
theorem opC_len {t:EK} {x:Opd}:opC call e n h (.len t x)=lenD n h t (ev e x):=eqOf rfl
theorem opC_app {k b:Nat} {s x:Opd}:opC call e n h (.app k b s x)=appD n h k b (ev e s) (view k h (ev e x)):=eqOf rfl
theorem opC_max {x y:Opd}:opC call e n h (.max x y)=maxD n h (ev e x) (ev e y):=eqOf rfl
theorem opC_min {x y:Opd}:opC call e n h (.min x y)=minD n h (ev e x) (ev e y):=eqOf rfl
theorem opC_call {f:Opd} {args:List Opd}:opC call e n h (.call f args)=callC call n h (ev e f) (evs e args):=eqOf rfl
theorem callC_cons {f:D} {x:D} {args:List D}:callC call n h f (x::args)=call (n+1) h f (x::args):=by cases f <;> rfl
theorem callC_fn0 {g:Nat}:callC call n h (.fn g [] []) []=pureC [] n h (.fn g [] []) [] (call (n+1) [] (.fn g [] []) []):=eqOf rfl
theorem callC_fn1 {g:Nat} {x:D} {a c:List D}:callC call n h (.fn g (x::a) c) []=call (n+1) h (.fn g (x::a) c) []:=eqOf rfl
theorem callC_fn2 {g:Nat} {x:D} {c:List D}:callC call n h (.fn g [] (x::c)) []=call (n+1) h (.fn g [] (x::c)) []:=eqOf rfl
theorem callC_yld {r:Nat}:callC call n h (.yld r) []=call (n+1) h (.yld r) []:=eqOf rfl
theorem callX_fn {X:RunF} {g:Nat} {a c args:List D}:callX F X n h (.fn g a c) args=callFn X n h (a ++ (args++c)) (F g):=by
  show callFn X n h (appL a (appL args c)) (F g)=_
  rw [appL_eq,appL_eq]

theorem okD_bool {b:Bool}:okD n h (.bool b) = .ok (.bool b) n h:=eqOf rfl
theorem okD_int {k:IntKind} {a:Int}:okD n h (.int k a) = .ok (.int k a) n h:=eqOf rfl
theorem okD_str {s:List Nat}:okD n h (.str s) = .ok (.str s) n h:=eqOf rfl
theorem okD_agg {cs:List D}:okD n h (.agg cs) = .ok (.agg cs) n h:=eqOf rfl
theorem okD_sl {k:Nat} {es sp:List D} {f:Bool}:okD n h (.sl k es sp f) = .ok (.sl k es sp f) n h:=eqOf rfl
theorem okD_ms {k r o l:Nat} {f:Bool}:okD n h (.ms k r o l f) = .ok (.ms k r o l f) n h:=eqOf rfl
theorem okD_nils:okD n h .nils = .ok .nils n h:=eqOf rfl
theorem okD_nilp:okD n h .nilp = .ok .nilp n h:=eqOf rfl
theorem okD_nilf:okD n h .nilf = .ok .nilf n h:=eqOf rfl
theorem okD_nilm:okD n h .nilm = .ok .nilm n h:=eqOf rfl
theorem okD_ptr {r i j:Nat}:okD n h (.ptr r i j) = .ok (.ptr r i j) n h:=eqOf rfl
theorem okD_ip {d:D} {j:Nat}:okD n h (.ip d j) = .ok (.ip d j) n h:=eqOf rfl
theorem okD_mp {r:Nat}:okD n h (.mp r) = .ok (.mp r) n h:=eqOf rfl
theorem okD_fn {f:Nat} {a c:List D}:okD n h (.fn f a c) = .ok (.fn f a c) n h:=eqOf rfl
theorem ifR_true {r:Rd}:ifR true r=r:=eqOf rfl
theorem wrap64_in {a:Int} (h1 : -9223372036854775808≤a) (h2:a≤9223372036854775807):IntKind.i64.wrap a=a:=IntWalk.i64_in _ ⟨h1,h2⟩
theorem wr_in {a:Int} (h1 : -9223372036854775808≤a) (h2:a≤9223372036854775807):wr .i64 a=a:=by
  have:=wrap64_in h1 h2
  show wr64 a=a
  unfold wr64
  cases a with
  | ofNat m =>
    show Bool.rec (motive:=fun _=>Int) (IntKind.i64.wrap (.ofNat m)) (.ofNat m) (Nat.blt m two62)=_
    cases Nat.blt m two62 with
    | false=>exact this
    | true=>rfl
  | negSucc m =>
    show Bool.rec (motive:=fun _=>Int) (IntKind.i64.wrap (.negSucc m)) (.negSucc m) (Nat.blt m two62)=_
    cases Nat.blt m two62 with
    | false=>exact this
    | true=>rfl
theorem bin_add {a b:Int} (h1 : -9223372036854775808≤a+b) (h2:a+b≤9223372036854775807):binD .add (.int .i64 a) (.int .i64 b) = .int .i64 (a+b):=by
  show D.int .i64 (wr .i64 (a+b))=_
  rw [wr_in h1 h2]
theorem bin_sub {a b:Int} (h1 : -9223372036854775808≤a - b) (h2:a - b≤9223372036854775807):binD .sub (.int .i64 a) (.int .i64 b) = .int .i64 (a - b):=by
  show D.int .i64 (wr .i64 (a - b))=_
  rw [wr_in h1 h2]
theorem bin_lss {a b:Int}:binD .lss (.int .i64 a) (.int .i64 b) = .bool (decide (a < b)):=by show D.bool (ltI a b)=_; rw [ltI_eq]
theorem bin_leq {a b:Int}:binD .leq (.int .i64 a) (.int .i64 b) = .bool (decide (a≤b)):=by
  show D.bool (Bool.not (ltI b a))=_
  rw [ltI_eq]
  congr 1
  show (!decide (b < a))=_
  rw [← decide_not]
  exact decide_eq_decide.2 (by omega)
theorem bin_gtr {a b:Int}:binD .gtr (.int .i64 a) (.int .i64 b) = .bool (decide (b < a)):=by show D.bool (ltI b a)=_; rw [ltI_eq]
theorem bin_geq {a b:Int}:binD .geq (.int .i64 a) (.int .i64 b) = .bool (decide (b≤a)):=by
  show D.bool (Bool.not (ltI a b))=_
  rw [ltI_eq]
  congr 1
  show (!decide (a < b))=_
  rw [← decide_not]
  exact decide_eq_decide.2 (by omega)
theorem bin_eql {a b:Int}:binD .eql (.int .i64 a) (.int .i64 b) = .bool (decide (a=b)):=by show D.bool (eqI a b)=_; rw [eqI_eq]
theorem bin_neq {a b:Int}:binD .neq (.int .i64 a) (.int .i64 b) = .bool (!decide (a=b)):=by show D.bool (Bool.not (eqI a b))=_; rw [eqI_eq]
theorem natR_of {f:Nat→Rd} {k:IntKind} {a:Nat}:natR f (.int k (a:Int))=f a:=eqOf rfl
theorem natR_lit {f:Nat→Rd} {k:IntKind} {a:Nat}:natR f (.int k (.ofNat a))=f a:=eqOf rfl

def isSl (k:Nat) (es:List D) (d:D):Prop := (d = .nils∧es=[])∨∃ sp f,d = .sl k es sp f
theorem len_isSl {k:Nat} {es:List D} {d:D} (hd:isSl k es d):lenD n h .slice d = .ok (.int .i64 (es.length:Nat)) n h:=by
  rcases hd with ⟨rfl,rfl⟩ | ⟨sp,f,rfl⟩
  · rfl
  · show lenI n h (lenL es)=_
    rw [lenL_eq]; rfl
theorem iaddr_isSl {k:Nat} {es:List D} {d:D} {i:Nat} (hd:isSl k es d) (hi:i < es.length):iaddrD n h k d i = .ok (.ip (es.getD i .junk) 0) n h:=by
  rcases hd with ⟨rfl,rfl⟩ | ⟨sp,f,rfl⟩
  · exact absurd hi (Nat.not_lt_zero _)
  · show ifR (Bool.and (Nat.blt i (lenL es)) (Nat.beq k k)) (.ok (.ip (nth es i) 0) n h)=_
    rw [lenL_eq,blt_iff,decide_eq_true hi,Nat.beq_refl,nth_eq]
    rfl
theorem okD_isSl {k:Nat} {es:List D} {d:D} (hd:isSl k es d):okD n h d = .ok d n h:=by
  rcases hd with ⟨rfl,rfl⟩ | ⟨sp,f,rfl⟩ <;> rfl
theorem loadD_ip {ag:Bool} {k j:Nat} {x:D}:loadD ag k n h (.ip x j)=okD n h (sub ag k j x):=eqOf rfl
theorem faddr_ip {off j:Nat} {x:D}:faddrD n h off (.ip x j) = .ok (.ip x (j+off)) n h:=eqOf rfl
theorem faddr_ptr {off r i j:Nat}:faddrD n h off (.ptr r i j) = .ok (.ptr r i (j+off)) n h:=eqOf rfl
theorem sub_cell {k j:Nat} {cs:List D}:sub false k j (.agg cs)=cs.getD j .junk:=by
  show nth cs j=_
  exact nth_eq _ _
theorem pick_true {a b:D}:pickD n h a b (.bool true) = .ok a n h:=eqOf rfl
theorem pick_false {a b:D}:pickD n h a b (.bool false) = .ok b n h:=eqOf rfl

theorem callFn_eq {X:RunF} {args:List D} {b:DCode} {ps:List Po} {rv:List RV} (hl:args.length=ps.length):callFn X n h args ⟨b,ps,rv,false⟩=finish n rv (X b (argsT args ps) n h):=by
  show ifR (Nat.beq (lenL args) (lenP ps)) (finish n rv (X b (argsT args ps) n h))=_
  rw [lenL_eq,lenP_eq,hl,Nat.beq_refl]
  rfl
theorem finK_ret {n0:Nat} {rv:List RV}:finK n0 rv (.ok .ret e n h)=finKL n0 n h (resL h e rv):=eqOf rfl
theorem finK_normal {n0:Nat} {rv:List RV}:finK n0 rv (.ok .normal e n h)=finKL n0 n h (resL h e rv):=eqOf rfl
theorem finKL_ok {n0:Nat} {l:List D}:finKL n0 n h (.ok l)=keepD n0 n h (tupD l):=eqOf rfl
theorem argsT_cons {d:D} {ds:List D} {p:Po} {ps:List Po}:argsT (d::ds) (p::ps)=putT p d (argsT ds ps):=eqOf rfl
theorem argsT_nil {ps:List Po}:argsT [] ps = .lf:=eqOf rfl
theorem finish_ret {n0:Nat} {rv:List RV}:finish n0 rv (.ok .ret e n h)=finishL n0 n h (resL h e rv):=eqOf rfl
theorem finish_normal {n0:Nat} {rv:List RV}:finish n0 rv (.ok .normal e n h)=finishL n0 n h (resL h e rv):=eqOf rfl
theorem resL_nil:resL h e [] = .ok []:=eqOf rfl
theorem resL_tmp {p:Po} {l:List RV}:resL h e (.tmp p::l)=resC (.ok (get p e) 0 []) (resL h e l):=eqOf rfl
theorem resL_cell {p:Po} {ag:Bool} {k:Nat} {l:List RV}:resL h e (.cell p ag k::l)=resC (loadD ag k 0 h (get p e)) (resL h e l):=eqOf rfl
theorem resC_ok {d:D} {m:Nat} {g:Hps} {l:List D}:resC (.ok d m g) (.ok l) = .ok (d::l):=eqOf rfl
theorem finishL_ok {n0:Nat} {l:List D}:finishL n0 n h (.ok l)=finishD n0 n h (tupD l):=eqOf rfl

def Fresh (n:Nat) (h:Hps):Prop:=∀ p,p∈h→p.1 < n
theorem dropFrom_eq {n0:Nat} {h:Hps} (hf:Fresh n0 h):dropFrom n0 h=h:=by
  induction h with
  | nil=>rfl
  | cons p t ih =>
    show Bool.rec (motive:=fun _=>Hps) (dropFrom n0 t) (p::dropFrom n0 t) (Nat.blt p.1 n0)=_
    rw [blt_iff,decide_eq_true (hf p (by simp)),ih (fun q hq=>hf q (by simp [hq]))]
end
end Go.Proofs.Ytpbpmpabndgeeaa

/- Slices as Lean's lists; what a function may leave alone; a call's end. No condition. -/
namespace Go.Proofs.Ytpbpmpabndgeeaa
open Go

structure Sl (α:Type) where
  nil:Bool
  full:Bool
  el:List α
  sp:List α
def slD {α:Type} (k:Nat) (enc:α→D) (s:Sl α):D:=bif s.nil && s.el.isEmpty && s.sp.isEmpty then .nils else .sl k (s.el.map enc) (s.sp.map enc) s.full
def Sl.app {α:Type} (l:List α):Sl α:=⟨true,false,l,[]⟩
def Sl.cut {α:Type} (s:Sl α) (a b:Nat):Sl α:=⟨s.nil && s.el.isEmpty && s.sp.isEmpty,s.full && decide (b=s.el.length),((s.el++s.sp).drop a).take (b - a),(s.el++s.sp).drop b⟩
theorem slD_isSl {α:Type} (k:Nat) (enc:α→D) (s:Sl α):isSl k (s.el.map enc) (slD k enc s):=by
  unfold slD
  cases hb : (s.nil && s.el.isEmpty && s.sp.isEmpty) with
  | true =>
    simp only [Bool.and_eq_true,List.isEmpty_iff] at hb
    exact .inl ⟨rfl,by rw [hb.1.2]; rfl⟩
  | false=>exact .inr ⟨_,_,rfl⟩

section
variable {F:Nat→DFn} {call:CallF} {e:Tr} {n:Nat} {h:Hps} {α:Type} {enc:α→D} {s:Sl α} {k:Nat}

theorem len_slD:lenD n h .slice (slD k enc s) = .ok (.int .i64 (s.el.length:Nat)) n h:=by
  rw [len_isSl (slD_isSl k enc s),List.length_map]
theorem iaddr_slD {i:Nat} (hi:i < s.el.length):iaddrD n h k (slD k enc s) i = .ok (.ip (enc s.el[i]) 0) n h:=by
  rw [iaddr_isSl (slD_isSl k enc s) (by rw [List.length_map]; exact hi)]
  congr 2
  rw [List.getD_eq_getElem?_getD,List.getElem?_map,List.getElem?_eq_getElem hi]
  rfl
theorem okD_slD:okD n h (slD k enc s) = .ok (slD k enc s) n h:=okD_isSl (slD_isSl k enc s)
def flat1:D→Bool
  | .int _ _=>true
  | .bool _=>true
  | .str _=>true
  | .nilp=>true
  | .nilf=>true
  | .nili=>true
  | .nilm=>true
  | .nils=>true
  | .ip _ _=>true
  | .sl _ _ _ _=>true
  | _=>false
def flat2:D→Bool
  | .agg cs=>cs.all flat1
  | d=>flat1 d
def flat:D→Bool
  | .tup cs=>cs.all flat2
  | d=>flat2 d
theorem flat1_slD:flat1 (slD k enc s)=true:=by
  rcases slD_isSl k enc s with ⟨h,_⟩ | ⟨_,_,h⟩ <;> rw [h] <;> rfl
theorem flat_slD:flat (slD k enc s)=true:=by
  rcases slD_isSl k enc s with ⟨h,_⟩ | ⟨_,_,h⟩ <;> rw [h] <;> rfl
theorem flat2_slD:flat2 (slD k enc s)=true:=by
  rcases slD_isSl k enc s with ⟨h,_⟩ | ⟨_,_,h⟩ <;> rw [h] <;> rfl
theorem flat_agg {cs:List D}:flat (.agg cs)=cs.all flat1:=eqOf rfl
theorem flat_tup {cs:List D}:flat (.tup cs)=cs.all flat2:=eqOf rfl
theorem flat2_agg {cs:List D}:flat2 (.agg cs)=cs.all flat1:=eqOf rfl

structure Plain (f:Nat) (d:D):Prop where
  frz:∀ h n0,Ytpbpmpabndgeeaa.frz h n0 (f+1) d=d
  hasP:∀ n0,Ytpbpmpabndgeeaa.hasP n0 (f+1) d=false
  hasR:∀ n0,Ytpbpmpabndgeeaa.hasR n0 (f+1) d=false
  hasJ:Ytpbpmpabndgeeaa.hasJ (f+1) d=false
theorem plain1 (f:Nat) {d:D} (hd:flat1 d=true):Plain f d:=by
  cases d <;> first | exact ⟨fun _ _=>rfl,fun _=>rfl,fun _=>rfl,rfl⟩ | cases hd
theorem all_false {l:List D} {g:D→Bool} (hg:∀ d,d∈l→g d=false):Bool.not (allL (fun d=>Bool.not (g d)) l)=false:=by
  rw [allL_eq]
  have : (l.all fun d=>Bool.not (g d))=true:=List.all_eq_true.2 (fun d hd=>by rw [hg d hd]; rfl)
  rw [this]; rfl
theorem plain_list {f:Nat} {l:List D} (hl:∀ d,d∈l→Plain f d):Plain (f+1) (.agg l)∧Plain (f+1) (.tup l):=by
  have h1:∀ h n0,mapL (frz h n0 (f+1)) l=l:=by
    intro h n0
    rw [mapL_eq]
    exact (List.map_congr_left (fun d hd => (hl d hd).frz h n0)).trans (List.map_id _)
  refine ⟨⟨fun h n0=>?_,fun n0=>all_false (fun d hd => (hl d hd).hasP n0),fun n0=>all_false (fun d hd => (hl d hd).hasR n0),all_false (fun d hd => (hl d hd).hasJ)⟩,⟨fun h n0=>?_,fun n0=>all_false (fun d hd => (hl d hd).hasP n0),fun n0=>all_false (fun d hd => (hl d hd).hasR n0),all_false (fun d hd => (hl d hd).hasJ)⟩⟩
  · exact congrArg D.agg (h1 h n0)
  · exact congrArg D.tup (h1 h n0)
theorem plain2 (f:Nat) {d:D} (hd:flat2 d=true):Plain (f+1) d:=by
  cases d with
  | agg cs=>exact (plain_list (fun d hd2=>plain1 f (List.all_eq_true.1 hd d hd2))).1
  | _=>exact plain1 (f+1) hd
theorem plain (f:Nat) {d:D} (hd:flat d=true):Plain (f+2) d:=by
  cases d with
  | tup cs=>exact (plain_list (fun d hd2=>plain2 f (List.all_eq_true.1 hd d hd2))).2
  | _=>exact plain2 (f+1) hd

def low (m:Nat) (d:D):Prop:=hasR m 20 d=false
def lowO (m:Nat) (o:Ob):Prop:=obR1 m o=false
def GoodAt (m:Nat) (h:Hps):Prop:=∀ p,p∈h→p.1 < m∧lowO m p.2
theorem good_nil {m:Nat}:GoodAt m []:=fun p hp=>by cases hp
theorem good_cons {m r:Nat} {o:Ob}:GoodAt m ((r,o)::h)↔r < m∧lowO m o∧GoodAt m h:=by
  constructor
  · intro H
    exact ⟨(H (r,o) (by simp)).1,(H (r,o) (by simp)).2,fun p hp=>H p (by simp [hp])⟩
  · rintro ⟨h1,h2,h3⟩ p hp
    rcases List.mem_cons.1 hp with rfl | hp
    · exact ⟨h1,h2⟩
    · exact h3 p hp
theorem low_flat {m:Nat} {d:D} (hd:flat d=true):low m d := (plain 17 hd).hasR m
theorem lowO_row {m:Nat} {es:List D} (hes:∀ d,d∈es→low m d):lowO m (.row k es):=all_false hes
theorem lowO_one {m:Nat} {d:D} (hd:low m d):lowO m (.row k [d]):=lowO_row (fun x hx=>by rw [List.mem_singleton.1 hx]; exact hd)
theorem ble_f {a b:Nat} (h:b < a):Nat.ble a b=false:=by rw [ble_iff]; exact decide_eq_false (by omega)
theorem low_ms {m q r o l:Nat} {f:Bool} (hr:r < m):low m (.ms q r o l f):=ble_f hr
theorem low_agg {m:Nat} {cs:List D} (hc:∀ d,d∈cs→hasR m 19 d=false):low m (.agg cs):=all_false hc
theorem good_leak {m:Nat} (hg:GoodAt m h):leak m h=false:=by
  induction h with
  | nil=>rfl
  | cons p t ih =>
    obtain ⟨r,o⟩:=p
    obtain ⟨h1,h2,h3⟩:=good_cons.1 hg
    show Bool.rec (motive:=fun _=>Bool) (leak m t) (Bool.or (obR1 m o) (leak m t)) (Nat.blt r m)=false
    rw [blt_iff,decide_eq_true h1,ih h3,show obR1 m o=false from h2]
    rfl
theorem good_drop {m:Nat} (hg:GoodAt m h):dropFrom m h=h:=dropFrom_eq (fun p hp => (hg p hp).1)
theorem leak_new {n0 r:Nat} {o:Ob} (hr:n0≤r):leak n0 ((r,o)::h)=leak n0 h:=by
  show Bool.rec (motive:=fun _=>Bool) (leak n0 h) (Bool.or (obR1 n0 o) (leak n0 h)) (Nat.blt r n0)=_
  rw [blt_iff,decide_eq_false (by omega)]
theorem drop_new {n0 r:Nat} {o:Ob} (hr:n0≤r):dropFrom n0 ((r,o)::h)=dropFrom n0 h:=by
  show Bool.rec (motive:=fun _=>Hps) (dropFrom n0 h) ((r,o)::dropFrom n0 h) (Nat.blt r n0)=_
  rw [blt_iff,decide_eq_false (by omega)]
theorem finishD_flat {n0:Nat} {d:D} (hd:flat d=true) (hl:leak n0 h=false):finishD n0 n h d = .ok d n0 (dropFrom n0 h):=by
  have P:=plain 17 hd
  have P60:=plain 57 hd
  unfold finishD
  rw [P.hasP n0,hl,P60.frz]
  show finishF n0 n h d d=_
  unfold finishF
  rw [P.hasJ,P.hasR n0]
  rfl
theorem flat_int {q:IntKind} {a:Int}:flat (.int q a)=true:=eqOf rfl
theorem flat_bool {b:Bool}:flat (.bool b)=true:=eqOf rfl
theorem flat_str {l:List Nat}:flat (.str l)=true:=eqOf rfl
theorem flat_nils:flat .nils=true:=eqOf rfl
theorem flat_sl {q:Nat} {a b:List D} {c:Bool}:flat (.sl q a b c)=true:=eqOf rfl
theorem flat1_int {q:IntKind} {a:Int}:flat1 (.int q a)=true:=eqOf rfl
theorem flat1_bool {b:Bool}:flat1 (.bool b)=true:=eqOf rfl
theorem flat1_str {l:List Nat}:flat1 (.str l)=true:=eqOf rfl
theorem flat1_nils:flat1 .nils=true:=eqOf rfl
theorem flat1_sl {q:Nat} {a b:List D} {c:Bool}:flat1 (.sl q a b c)=true:=eqOf rfl
theorem flat2_int {q:IntKind} {a:Int}:flat2 (.int q a)=true:=eqOf rfl
theorem flat2_bool {b:Bool}:flat2 (.bool b)=true:=eqOf rfl
theorem flat2_str {l:List Nat}:flat2 (.str l)=true:=eqOf rfl
theorem flat2_nils:flat2 .nils=true:=eqOf rfl
theorem flat2_sl {q:Nat} {a b:List D} {c:Bool}:flat2 (.sl q a b c)=true:=eqOf rfl
theorem tupD_none:tupD [] = .tup []:=eqOf rfl
theorem tupD_one {d:D}:tupD [d]=d:=eqOf rfl
theorem tupD_more {a b:D} {l:List D}:tupD (a::b::l) = .tup (a::b::l):=eqOf rfl

theorem getO_hd {r:Nat} {o:Ob}:getO ((r,o)::h) r=o:=by rw [getO_cons,if_pos rfl]
theorem getO_tl {r q:Nat} {o:Ob} (hr:r≠q):getO ((r,o)::h) q=getO h q:=by rw [getO_cons,if_neg hr]
theorem setO_hd {r:Nat} {o x:Ob}:setO ((r,o)::h) r x = (r,x)::h:=by
  show Bool.rec (motive:=fun _=>Hps) ((r,o)::setO h r x) ((r,x)::h) (Nat.beq r r)=_
  rw [Nat.beq_refl]
theorem setO_tl {r q:Nat} {o x:Ob} (hr:r≠q):setO ((r,o)::h) q x = (r,o)::setO h q x:=by
  show Bool.rec (motive:=fun _=>Hps) ((r,o)::setO h q x) ((r,x)::h) (Nat.beq r q)=_
  rw [beq_rec,if_neg hr]
theorem delO_hd {r:Nat} {o:Ob}:delO ((r,o)::h) r=delO h r:=by
  show Bool.rec (motive:=fun _=>Hps) ((r,o)::delO h r) (delO h r) (Nat.beq r r)=_
  rw [Nat.beq_refl]
theorem delO_tl {r q:Nat} {o:Ob} (hr:r≠q):delO ((r,o)::h) q = (r,o)::delO h q:=by
  show Bool.rec (motive:=fun _=>Hps) ((r,o)::delO h q) (delO h q) (Nat.beq r q)=_
  rw [beq_rec,if_neg hr]
theorem delO_out {r:Nat} (hr:∀ p,p∈h→p.1≠r):delO h r=h:=by
  induction h with
  | nil=>rfl
  | cons p t ih =>
    obtain ⟨q,o⟩:=p
    rw [delO_tl (hr (q,o) (by simp)),ih (fun p hp=>hr p (by simp [hp]))]
theorem boxD_agg {d:List D} (hk:k=d.length):boxD n h k (.agg d) = .ok (.ptr n 0 0) n ((n,.row k [.agg d])::h):=by
  show ifR (Nat.beq k (lenL (cells (.agg d)))) _=_
  rw [lenL_eq,hk]
  show ifR (Nat.beq d.length d.length) _=_
  rw [Nat.beq_refl]; rfl
theorem boxD_one {d:D} (hd:flat1 d=true):boxD n h 1 d = .ok (.ptr n 0 0) n ((n,.row 1 [d])::h):=by
  cases d <;> first | rfl | cases hd
theorem boxD_ms {q r o l:Nat} {f:Bool}:boxD n h 1 (.ms q r o l f) = .ok (.ptr n 0 0) n ((n,.row 1 [.ms q r o l f])::h):=eqOf rfl
theorem boxD_ptr {r i j:Nat}:boxD n h 1 (.ptr r i j) = .ok (.ptr n 0 0) n ((n,.row 1 [.ptr r i j])::h):=eqOf rfl
theorem boxD_fn {g:Nat} {a c:List D}:boxD n h 1 (.fn g a c) = .ok (.ptr n 0 0) n ((n,.row 1 [.fn g a c])::h):=eqOf rfl
theorem loadD_ptr {ag:Bool} {r i j:Nat}:loadD ag k n h (.ptr r i j)=loadR ag k i j n h (getO h r):=eqOf rfl
theorem loadR_row {ag:Bool} {q i j:Nat} {es:List D}:loadR ag k i j n h (.row q es)=okD n h (sub ag k j (es.getD i .junk)):=by
  show okD n h (sub ag k j (nth es i))=_
  rw [nth_eq]
theorem sub_all {cs:List D} (hk:k=cs.length):sub true k 0 (.agg cs) = .agg cs:=by
  show subW k (takeL k (dropL 0 cs))=_
  rw [takeL_eq,dropL_eq,hk,List.drop_zero,List.take_length]
  unfold subW
  rw [lenL_eq,Nat.beq_refl]
theorem sub_part {j:Nat} {cs:List D} (hk:j+k≤cs.length):sub true k j (.agg cs) = .agg ((cs.drop j).take k):=by
  show subW k (takeL k (dropL j cs))=_
  rw [takeL_eq,dropL_eq]
  unfold subW
  have : ((cs.drop j).take k).length=k:=by rw [List.length_take,List.length_drop]; omega
  rw [lenL_eq,this,Nat.beq_refl]
theorem sub_cell1 {d:D} (hd:flat1 d=true):sub false k 0 d=d:=by cases d <;> first | rfl | cases hd
theorem sub_ms {q r o l:Nat} {f:Bool}:sub false k 0 (.ms q r o l f) = .ms q r o l f:=eqOf rfl
theorem sub_ptr {r i j:Nat}:sub false k 0 (.ptr r i j) = .ptr r i j:=eqOf rfl
theorem sub_fn {g:Nat} {a c:List D}:sub false k 0 (.fn g a c) = .fn g a c:=eqOf rfl
theorem storeD_ptr {ag:Bool} {x:D} {r i j:Nat}:storeD ag k x n h (.ptr r i j)=storeR ag k r i j x n h (getO h r):=eqOf rfl
theorem storeR_all {q i r:Nat} {es xs:List D} {ys:List D} (he:es.getD i .junk = .agg ys) (hi:i < es.length) (hk:k=xs.length) (hl:xs.length=ys.length):storeR true k r i 0 (.agg xs) n h (.row q es) = .ok .junk n (setO h r (.row q (es.set i (.agg xs)))):=by
  show storeS r q i es n h (setS true k 0 (nth es i) (.agg xs))=_
  rw [nth_eq,he]
  have h1:overwrite xs 0 ys=xs:=by
    have gen:∀ (xs:List D) (pre ys:List D),xs.length=ys.length→overwrite xs pre.length (pre++ys)=pre++xs:=by
      intro xs
      induction xs with
      | nil=>intro pre ys hl; cases ys with | nil=>rfl | cons=>cases hl
      | cons x xs ih =>
        intro pre ys hl
        cases ys with
        | nil=>cases hl
        | cons y ys =>
          show overwrite xs (Nat.succ pre.length) (put (pre++y::ys) pre.length x)=_
          rw [put_eq]
          have : (pre++y::ys).set pre.length x = (pre++[x])++ys:=by simp
          rw [this]
          have h2:=ih (pre++[x]) ys (by simpa using hl)
          rw [List.length_append] at h2
          rw [show Nat.succ pre.length=pre.length+[x].length from rfl,h2]
          simp
    exact gen xs [] ys hl
  have h2:setS true k 0 (.agg ys) (.agg xs) = .agg xs:=by
    show Bool.rec (motive:=fun _=>D) .junk (setA2 k 0 ys xs) true=_
    show Bool.rec (motive:=fun _=>D) .junk (.agg (overwrite xs 0 ys)) (Bool.and (Nat.beq (lenL xs) k) (Nat.ble (0+k) (lenL ys)))=_
    rw [lenL_eq,lenL_eq,hk,Nat.beq_refl,Nat.zero_add,hl,ble_iff,decide_eq_true (Nat.le_refl _),h1]
    rfl
  rw [h2]
  show ifR (Nat.blt i (lenL es)) (.ok .junk n (setO h r (.row q (put es i (.agg xs)))))=_
  rw [lenL_eq,blt_iff,decide_eq_true hi,put_eq]
  rfl
theorem storeR_cell {q i j r:Nat} {es ys:List D} {x:D} (he:es.getD i .junk = .agg ys) (hi:i < es.length) (hj:j < ys.length) (hx:one x=true):storeR false k r i j x n h (.row q es) = .ok .junk n (setO h r (.row q (es.set i (.agg (ys.set j x))))):=by
  show storeS r q i es n h (setS false k j (nth es i) x)=_
  rw [nth_eq,he]
  have h2:setS false k j (.agg ys) x = .agg (ys.set j x):=by
    have:setS false k j (.agg ys) x=setA1 j ys x:=by cases x <;> first | rfl | cases hx
    rw [this]
    unfold setA1
    rw [hx,lenL_eq,blt_iff,decide_eq_true hj,put_eq]
    rfl
  rw [h2]
  show ifR (Nat.blt i (lenL es)) (.ok .junk n (setO h r (.row q (put es i (.agg (ys.set j x))))))=_
  rw [lenL_eq,blt_iff,decide_eq_true hi,put_eq]
  rfl
theorem storeR_one {q i r:Nat} {es:List D} {x y:D} (he:es.getD i .junk=y) (hy:one y=true) (hi:i < es.length) (hx:one x=true):storeR false k r i 0 x n h (.row q es) = .ok .junk n (setO h r (.row q (es.set i x))):=by
  show storeS r q i es n h (setS false k 0 (nth es i) x)=_
  rw [nth_eq,he]
  have h2:setS false k 0 y x=x:=by
    cases y <;> first | (show Bool.rec (motive:=fun _=>D) .junk x (Bool.and (Bool.not false) (Bool.and (Nat.beq 0 0) (one x)))=x; rw [hx]; rfl) | cases hy
  rw [h2]
  have h3:x ≠ .junk:=fun e=>by rw [e] at hx; cases hx
  have:storeS r q i es n h x=ifR (Nat.blt i (lenL es)) (.ok .junk n (setO h r (.row q (put es i x)))):=by cases x <;> first | rfl | exact absurd rfl h3
  rw [this,lenL_eq,blt_iff,decide_eq_true hi,put_eq]
  rfl
noncomputable def optNat (env:Tr) (x:Option Opd) (d:Nat):Option Nat:=match x with
  | none=>some d
  | some x => (match ev env x with | .int _ (.ofNat m)=>some m | _=>none)
theorem Sl.cut_el {a b:Nat} (hb:b≤s.el.length) : (s.cut a b).el = (s.el.drop a).take (b - a):=by
  show ((s.el++s.sp).drop a).take (b - a)=_
  by_cases ha:a≤s.el.length
  · rw [List.drop_append_of_le_length ha,List.take_append_of_le_length (by rw [List.length_drop]; omega)]
  · rw [show b - a=0 by omega,List.take_zero,List.take_zero]
theorem nilck_ptr {r i j:Nat}:nilckD n h (.ptr r i j) = .ok (.ptr r i j) n h:=eqOf rfl
theorem nilck_ip {d:D} {j:Nat}:nilckD n h (.ip d j) = .ok (.ip d j) n h:=eqOf rfl
theorem nilck_fn {g:Nat} {a c:List D}:nilckD n h (.fn g a c) = .ok (.fn g a c) n h:=eqOf rfl
theorem dec_t {p:Prop} [Decidable p] (hp:p):decide p=true:=decide_eq_true hp
theorem dec_f {p:Prop} [Decidable p] (hp:¬ p):decide p=false:=decide_eq_false hp
end
end Go.Proofs.Ytpbpmpabndgeeaa
