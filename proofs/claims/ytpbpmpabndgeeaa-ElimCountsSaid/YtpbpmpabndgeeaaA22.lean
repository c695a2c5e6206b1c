/- All code: what its run over data comes to is what it comes to in the model. No condition. -/
import Derived.Test.YtpbpmpabndgeeaaA20
import Derived.Scope
import Derived.Maps.RangeRun

/- Regions that keep their order; operations as steps. No condition. -/
set_option linter.unusedSimpArgs false
set_option linter.unusedVariables false
namespace Go.Proofs.Ytpbpmpabndgeeaa
open Go

def notCall:DOp→Bool
  | .call _ _=>false
  | .inv _ _ _=>false
  | _=>true

section
variable {U:Us} {P:Program} {K:Nat→Bool} {RC:Nat→Code→DCode→Prop} {s0:Nat} {ro:Option Nat} {m:Nat} {Fb:Nat→Prop} {β:Nat→Bk} {n:Nat} {h:Hps} {e:Tr} {a:Act} {w:World}

theorem Adv.upL (I:Inv RC β (Lt n) Fb h w):Adv β (Lt n) h w β (Lt (n+1)) h w:=by
  have:=Adv.up (N:=n) I
  rwa [Ad_lt] at this
theorem Inv.upL (I:Inv RC β (Lt n) Fb h w):Inv RC β (Lt (n+1)) Fb h w:=by
  have:=Inv.up (N:=n) I
  rwa [Ad_lt] at this

theorem notCall_cT {t:TypeId} {f:Bool→TypeInfo→DOp} (hf:∀ b i,notCall (f b i)=true):notCall (cT P t f)=true:=by
  unfold cT; split
  · split
    · exact hf _ _
    · rfl
  · rfl
theorem cOp_call (o:Oper) : (∃ c f,o.op = .call c∧c.callee = .value f) ∨ (∃ c x k,o.op = .call c∧c.callee = .invoke x k)∨notCall (cOp P m o)=true:=by
  obtain ⟨dst,op,ty,pos,aft,g⟩:=o
  cases op with
  | call c =>
    cases hc:c.callee with
    | value f=>exact .inl ⟨c,f,rfl,hc⟩
    | invoke r k=>exact .inr (.inl ⟨c,r,k,rfl,hc⟩)
    | builtin b =>
      right; right
      show notCall (cCall P m c)=true
      unfold cCall
      rw [hc]
      cases b <;> first | rfl | (simp only [cLen,cApp,cMM,cMdel]; repeat' split) <;> rfl
  | load t x=>right; right; show notCall (cT P t fun ag i => .load ag i.size (cO m x))=true; exact notCall_cT (fun _ _=>rfl)
  | store t x y=>right; right; show notCall (cT P t fun ag i=>if ag=false∧i.size≠1 then .bad else .store ag i.size (cO m x) (cO m y))=true; refine notCall_cT (fun _ _=>?_); split <;> rfl
  | field T x f =>
    right; right
    show notCall (cFld P m T x f)=true
    unfold cFld
    repeat' split
    · exact notCall_cT (fun _ _=>rfl)
    · rfl
    · rfl
  | binOp op t x y s =>
    right; right
    show notCall (cBin P m op t x y)=true
    unfold cBin
    split
    · unfold cEq; repeat' split
      all_goals rfl
    · unfold cEq; repeat' split
      all_goals rfl
    · rfl
  | unOp op t x=>right; right; cases op <;> rfl
  | makeMap T r=>right; right; rfl
  | alloc T => right; right; show notCall (cNew P T) = true; unfold cNew; repeat' split
               all_goals rfl
  | box T x => right; right; show notCall (cBox P m T x) = true; unfold cBox; repeat' split
               all_goals rfl
  | build T ps => right; right; show notCall (cBuild P m T ps.toList) = true; unfold cBuild; repeat' split
                  all_goals rfl
  | buildSlice T l ps => right; right; show notCall (cBsl P m T l ps.toList) = true; unfold cBsl; repeat' split
                         all_goals rfl
  | fieldAddr T x f => right; right; show notCall (cFaddr P m T x f) = true; unfold cFaddr; repeat' split
                       all_goals rfl
  | indexAddr T x i => right; right; show notCall (cIaddr P m T x i) = true; unfold cIaddr; repeat' split
                       all_goals rfl
  | index T x i => right; right; show notCall (match P.underlying T with | some .string => .sidx (cO m x) (cO m i) | some (.array n e) => cT P e fun ag j => .aidx ag j.size n (cO m x) (cO m i) | _ => .bad) = true; split; · rfl
                   · exact notCall_cT (fun _ _=>rfl)
                   · rfl
  | slice T x lo hi mx => right; right; show notCall (cSlice P m T x lo hi mx) = true; unfold cSlice; repeat' split
                          all_goals rfl
  | convert s t x => right; right; show notCall (cCvt P m s t x) = true; unfold cCvt; repeat' split
                     all_goals rfl
  | makeFunc fn x c=>right; right; show notCall (cFn1 m fn x c)=true; unfold cFn1; split <;> rfl
  | makeSlice T l c => right; right; show notCall (cMksl P m T l c) = true; unfold cMksl; repeat' split
                       all_goals rfl
  | lookup T x i ok => right; right; show notCall (cLook T x i ok) = true; unfold cLook; repeat' split
                       all_goals rfl
  | mapUpdate T x i v => right; right; show notCall (cMupd T x i v) = true; unfold cMupd; repeat' split
                         all_goals rfl
  | makeInterface T x => right; right; show notCall (cMkif T x) = true; unfold cMkif; repeat' split
                         all_goals rfl
  | typeAssert x xT T ok => right; right; show notCall (cTas T x ok) = true; unfold cTas; repeat' split
                            all_goals rfl
  | range T x => right; right; show notCall (cMrng T x) = true; unfold cMrng; repeat' split
                 all_goals rfl
  | _=>exact .inr (.inr rfl)

theorem opC_notCall {call:CallF} {o:DOp} (ho:notCall o=true):opC call e n h o=opD e n h o:=by cases o <;> first | rfl | cases ho

theorem not_defer {o:Oper} {d:D} {n':Nat} {h':Hps} (hd:opD e n h (cOp P m o) = .ok d n' h'):∀ c,o.op ≠ .defer c:=by
  intro c hc
  have:cOp P m o = .bad:=by unfold cOp; rw [hc]
  rw [this] at hd
  cases hd

theorem resolve_val {c:Call} {f:Operand} (hc:c.callee = .value f) {fn:Fn} {A C:Array Value} (hf:a.eval f = .func fn A C) (ty:TypeId) :
    (do let d ← resolve a.eval c ty; invoke d.target d.args:Sem Next).run P w = (invoke (.fn fn C) (A++c.args.map a.eval)).run P w:=by
  simp only [resolve,hc,Sem.run_bind,hf,Deferred.ofValue,Sem.run_pure,Result.andThen_ok]

theorem inv_ok {X:RunF} (hX:CodeOk P X) (hXb:∀ e n h,X .bad e n h = .bad) (S:St P s0 ro m Fb β n h e a w) {o:Oper} {c:Call} {x:Operand} {name:String} (ho:o.op = .call c) (hc:c.callee = .invoke x name) {d:D} {n':Nat} {h':Hps}
    (hd:opC (callX (cFk K P) X) e n h (cOp P m o) = .ok d n' h') {next:Act→World→Prop} {Q:Exit→Act→World→Prop}
    (hnext:∀ v β' w',Rep w' (Mk β' Fb h') β' (Lt n') v d→Inv (RCc P) β' (Lt n') Fb h' w'→Adv β (Lt n) h w β' (Lt n') h' w'→next (a.put o.dst v) w'):o.wpIn (FR ro) 0 P a w next Q:=by
  have hco:cOp P m o=cInv x name c.args:=by unfold cOp; rw [ho]; show cCall P m c=_; unfold cCall; rw [hc]
  rw [hco] at hd
  cases hd
theorem call_ok {X:RunF} (hX:CodeOk P X) (hXb:∀ e n h,X .bad e n h = .bad) (S:St P s0 ro m Fb β n h e a w) {o:Oper} {c:Call} {f:Operand} (ho:o.op = .call c) (hc:c.callee = .value f) {d:D} {n':Nat} {h':Hps}
    (hd:callX (cFk K P) X (n+1) h (ev e (cO m f)) (evs e (cOs m c.args)) = .ok d n' h') {next:Act→World→Prop} {Q:Exit→Act→World→Prop}
    (hnext:∀ v β' w',Rep w' (Mk β' Fb h') β' (Lt n') v d→Inv (RCc P) β' (Lt n') Fb h' w'→Adv β (Lt n) h w β' (Lt n') h' w'→next (a.put o.dst v) w'):o.wpIn (FR ro) 0 P a w next Q:=by
  refine ⟨fun _ _=>trivial,?_⟩
  rw [Oper.semAt_eq _ _ _ (fun c h=>by rw [ho] at h; cases h)]
  have hex:execOp a.eval o = (do let d ← resolve a.eval c o.type; invoke d.target d.args:Sem Next):=by unfold execOp; rw [ho]
  rw [hex]
  have hev:=ev_ok S.env S.sz f
  have hvs:=evs_ok S.env S.sz c.args
  have Au:=Adv.upL S.inv
  have Iu:=S.inv.upL
  revert hd hev
  generalize ev e (cO m f)=G
  intro hd hev
  cases G with
  | fn g x y =>
    obtain ⟨A,C,hg,hA,hC⟩:=fn_inv hev
    rw [resolve_val hc hg]
    have hargs:RepL w (Mk β Fb h) β (Lt n) (A++c.args.map a.eval++C) (appL x (appL (evs e (cOs m c.args)) y)):=by
      rw [appL_eq,appL_eq,← List.append_assoc]
      exact (hA.app ⟨hvs.1,hvs.2⟩).app hC
    have hargs1:=hargs.adv Au
    replace hd:callFn X (n+1) h (appL x (appL (evs e (cOs m c.args)) y)) (cFk K P g) = .ok d n' h':=hd
    obtain ⟨fn',cc,f1,f2,f3,f4⟩:=callFn_ok hX hXb Iu hargs1.1 hargs1.2 hd
    rw [show (invoke (.fn (.func g) C) (A++c.args.map a.eval)).run P w=_ from run_callFunc f1 f2 f3]
    refine ⟨FR_depth ro,CallsIn.mono (f4 ro) (fun en w' hp=>?_)⟩
    obtain ⟨v,β',rfl,p1,p2,p3⟩:=hp
    exact hnext v β' w' p1 p2 (Au.trans p3)
  | yld r =>
    cases hgv:a.eval f with
    | func fn A C =>
      rw [hgv] at hev
      cases hev with
      | yld hr =>
        rw [resolve_val hc hgv]
        have hargs:RepL w (Mk β Fb h) β (Lt (n+1)) (c.args.map a.eval) (evs e (cOs m c.args)):=RepL.adv Au ⟨hvs.1,hvs.2⟩
        replace hd:round X r (n+1) h (evs e (cOs m c.args)) (getO h r) = .ok d n' h':=hd
        obtain ⟨L,k1,k2,k3⟩:=round_ok hX Iu hargs.1 hargs.2 hd
        have hy : (invoke (.fn (.yield (β r).b) #[]) (#[]++c.args.map a.eval)).run P w = .ok (.round (β r).b L.fn ((L.params.zip (c.args.map a.eval)).foldl (fun tmps (t,a)=>tmps.setIfInBounds t a) L.tmps) L.assign L.body) w:=by
          show (Instr.yield (β r).b (#[]++c.args.map a.eval)).run P w=_
          rw [Array.empty_append]
          unfold Instr.yield
          simp only [Sem.run_bind,run_getL k1,Result.andThen_ok]
          rw [if_neg (fun hne=>hne k2)]
          rfl
        rw [hy]
        refine ⟨FR_depth ro,RoundIn.mono k3 (fun en w' hp=>?_)⟩
        obtain ⟨v,β',rfl,p1,p2,p3⟩:=hp
        exact hnext v β' w' p1 p2 (Au.trans p3)
    | _=>rw [hgv] at hev; cases hev
  | _=>cases hd

def SoloOk (K:Nat→Bool) (P:Program) (X:RunF):Prop:=∀ {s0:Nat} {ro:Option Nat} {m:Nat} {Fb:Nat→Prop} {β:Nat→Bk} {n:Nat} {h:Hps} {e:Tr} {a:Act} {w:World},St P s0 ro m Fb β n h e a w →
  ∀ {o:Oper} {c:Call} {f:Operand},o.op = .call c→c.callee = .value f→∀ {d:D} {n':Nat} {h':Hps},subC (callX (cFk K P) X) [] n h (ev e (cO m f)) (evs e (cOs m c.args)) = .ok d n' h' →
  ∀ {next:Act→World→Prop} {Q:Exit→Act→World→Prop},(∀ v β' w',Rep w' (Mk β' Fb h') β' (Lt (n'+1)) v d→Inv (RCc P) β' (Lt (n'+1)) Fb h' w'→Adv β (Lt n) h w β' (Lt (n'+1)) h' w'→next (a.put o.dst v) w')→o.wpIn (FR ro) 0 P a w next Q

theorem op_ok {X:RunF} (hX:CodeOk P X) (hXb:∀ e n h,X .bad e n h = .bad) (hSo:SoloOk K P X) (S:St P s0 ro m Fb β n h e a w) {o:Oper} {d:D} {n':Nat} {h':Hps} (hd:opC (callX (cFk K P) X) e n h (cOp P m o) = .ok d n' h') {next:Act→World→Prop} {Q:Exit→Act→World→Prop}
    (hnext:∀ v β' w',Rep w' (Mk β' Fb h') β' (Lt (n'+1)) v d→Inv (RCc P) β' (Lt (n'+1)) Fb h' w'→Adv β (Lt n) h w β' (Lt (n'+1)) h' w'→next (a.put o.dst v) w'):o.wpIn (FR ro) 0 P a w next Q:=by
  rcases cOp_call (P:=P) (m:=m) o with ⟨c,f,ho,hc⟩ | ⟨c,x,k,ho,hc⟩ | hn
  · have hco:cOp P m o = .call (cO m f) (cOs m c.args):=by
      unfold cOp; rw [ho]; show cCall P m c=_; unfold cCall; rw [hc]
    rw [hco] at hd
    replace hd:Bool.rec (motive:=fun _=>Rd) (callX (cFk K P) X (n+1) h (ev e (cO m f)) (evs e (cOs m c.args))) (subC (callX (cFk K P) X) [] n h (ev e (cO m f)) (evs e (cOs m c.args))) (soloB (evs e (cOs m c.args)) (ev e (cO m f))) = .ok d n' h':=hd
    cases hsb:soloB (evs e (cOs m c.args)) (ev e (cO m f)) with
    | true=>rw [hsb] at hd; exact hSo S ho hc hd hnext
    | false =>
    rw [hsb] at hd
    exact call_ok hX hXb S ho hc hd (fun v β' w' h1 h2 h3=>hnext v β' w' (h1.adv (Adv.upL h2) (Sub.refl _) _ (Sub.lt (Nat.le_succ _))) h2.upL (h3.trans (Adv.upL h2)))
  · exact inv_ok hX hXb S ho hc hd (fun v β' w' h1 h2 h3=>hnext v β' w' (h1.adv (Adv.upL h2) (Sub.refl _) _ (Sub.lt (Nat.le_succ _))) h2.upL (h3.trans (Adv.upL h2)))
  · rw [opC_notCall hn] at hd
    have hnum:=opD_num e n h (cOp P m o)
    rw [hd] at hnum
    cases (show n'=n from hnum)
    obtain ⟨v,w',β',h1,h2,h3,h4⟩ := (opD_ok (P:=P) S.inv S.env S.sz o (fun _=>Nat.lt_irrefl n) hd).gen S.inv
    rw [Ad_lt] at h2 h3 h4
    refine ⟨fun _ _=>trivial,?_⟩
    rw [Oper.semAt_eq _ _ _ (not_defer hd)]
    rcases h1 with h1 | ⟨h1,rfl⟩
    · rw [h1]; exact hnext v β' w' h2 h3 h4
    · rw [h1]; exact hnext undef β' w' h2 h3 h4

theorem want_ok {M:Nat→Prop} {U:Us} {ops:Array Oper} {tmps:Array Value} (E:EnvOk w M β U tmps e) (hm:m≤tmps.size) {o:Oper} {g:Option (Po×Bool)} (hg:cG m ops o.guard=some g) {b:Bool} (hw:want e g = .ok b):Region.wanted o (yielded ops tmps)=b:=by
  unfold Region.wanted
  cases ho:o.guard with
  | none =>
    rw [ho] at hg
    cases hg
    cases hw
    rfl
  | some p =>
    obtain ⟨j,wv⟩:=p
    rw [ho] at hg
    unfold cG at hg
    simp only at hg
    split at hg
    · rename_i t ht
      split at hg
      · rename_i htm
        cases hg
        have hr:=E.2 t (Nat.lt_of_lt_of_le htm hm)
        have hlt:t < tmps.size:=Nat.lt_of_lt_of_le htm hm
        have hy:yielded ops tmps j = (match tmps.getD t undef with | .bool b=>some b | _=>none):=by
          unfold yielded
          rw [ht]
          simp only [Option.bind_some]
          rw [Array.getElem?_eq_getElem hlt]
          have e1:tmps.getD t undef=tmps[t]:=by simp [Array.getD,hlt]
          rw [e1]
          cases tmps[t] <;> rfl
        replace hw:wantB wv (get (po t) e) = .ok b:=hw
        show (yielded ops tmps j == some wv)=b
        rw [hy]
        revert hr hw
        generalize get (po t) e=G
        intro hr hw
        cases G with
        | bool c =>
          rw [Rep.bool_inv hr]
          cases hw
          rw [eqB_eq]
          show (some c == some wv) = (wv == c)
          cases c <;> cases wv <;> rfl
        | tup l =>
          cases l with
          | nil =>
            cases hw
            cases hv:tmps.getD t undef with
            | tuple vs=>rfl
            | _=>rw [hv] at hr; cases hr
          | cons x y=>cases hw
        | _=>cases hw
      · cases hg
    · cases hg

theorem reg_ok {X:RunF} (hX:CodeOk P X) (hXb:∀ e n h,X .bad e n h = .bad) (hSo:SoloOk K P X) {ops:Array Oper} {x:Ex} {e':Tr} {n':Nat} {h':Hps} {Q:Exit→Act→World→Prop} :
    ∀ (l:List Oper) (s:Nat) {β:Nat→Bk} {n:Nat} {h:Hps} {e:Tr} {a:Act} {w:World},(∀ i,i < l.length→ops[s+i]? = l[i]?)→St P s0 ro m Fb β n h e a w→runOps (callX (cFk K P) X) (l.map (cOper P m ops)) e n h = .ok x e' n' h' →
      (∀ β' a' w',St P s0 ro m Fb β' n' h' e' a' w'→Adv β (Lt n) h w β' (Lt n') h' w'→Q (exOf x) a' w')→wpOpsIn (FR ro) 0 P ops Q (List.range' s l.length) a w:=by
  intro l
  induction l with
  | nil =>
    intro s β n h e a w _ S hd hQ
    cases hd
    exact hQ _ _ _ S (Adv.refl _ _ _ _)
  | cons o l ih =>
    intro s β n h e a w hi S hd hQ
    have ho:ops[s]? = some o:=by simpa using hi 0 (by simp)
    have hi':∀ i,i < l.length→ops[s+1+i]? = l[i]? := fun i hi2=>by
      have:=hi (i+1) (by simp; omega)
      rw [show s+1+i=s + (i+1) by omega]
      simpa using this
    have hd1:stepO (callX (cFk K P) X) (runOps (callX (cFk K P) X) (l.map (cOper P m ops))) e n h (cOper P m ops o) = .ok x e' n' h':=hd
    show wpOpsIn (FR ro) 0 P ops Q (s::List.range' (s+1) l.length) a w
    unfold wpOpsIn
    simp only [ho]
    unfold cOper at hd1
    split at hd1
    · rename_i dp g hdp hg
      have hd2:stepW (callX (cFk K P) X) (runOps (callX (cFk K P) X) (l.map (cOper P m ops))) e n h dp (cOp P m o) (want e g) = .ok x e' n' h':=hd1
      cases hw:want e g with
      | bad=>rw [hw] at hd2; cases hd2
      | ok b =>
        rw [hw] at hd2
        have hwant:=want_ok (ops:=ops) S.env S.sz hg hw
        rw [hwant]
        cases b with
        | false =>
          simp only [Bool.false_eq_true,if_false]
          replace hd2:runOps (callX (cFk K P) X) (l.map (cOper P m ops)) (putE e dp (.tup [])) (n+1) h = .ok x e' n' h':=hd2
          refine ⟨fun _ _=>trivial,?_⟩
          have Au:=Adv.upL S.inv
          have Su:=S.adv S.inv.upL Au
          have hu:Rep w (Mk β Fb h) β (Lt (n+1)) undef (.tup []) := .tup #[] [] rfl (fun i hi=>absurd hi (Nat.not_lt_zero _))
          exact ih (s+1) hi' (Su.put S.m_lt hdp hu) hd2 (fun β' a' w' S' A'=>hQ β' a' w' S' (Au.trans A'))
        | true =>
          simp only [if_true]
          cases hop:opC (callX (cFk K P) X) e n h (cOp P m o) with
          | bad =>
            replace hd2:afterOp (runOps (callX (cFk K P) X) (l.map (cOper P m ops))) e dp (opC (callX (cFk K P) X) e n h (cOp P m o)) = .ok x e' n' h':=hd2
            rw [hop] at hd2
            cases hd2
          | ok d n1 h1 =>
            replace hd2:afterOp (runOps (callX (cFk K P) X) (l.map (cOper P m ops))) e dp (opC (callX (cFk K P) X) e n h (cOp P m o)) = .ok x e' n' h':=hd2
            rw [hop] at hd2
            replace hd2:runOps (callX (cFk K P) X) (l.map (cOper P m ops)) (putE e dp d) (n1+1) h1 = .ok x e' n' h':=hd2
            refine op_ok hX hXb hSo S hop (fun v β' w' g1 g2 g3=>?_)
            exact ih (s+1) hi' ((S.adv g2 g3).put S.m_lt hdp g1) hd2 (fun β2 a2 w2 S2 A2=>hQ β2 a2 w2 S2 (g3.trans A2))
    · cases hd1
end
end Go.Proofs.Ytpbpmpabndgeeaa

/- All code: what its run over data comes to is what it comes to in the model. No condition. -/
namespace Go.Proofs.Ytpbpmpabndgeeaa
open Go

section
variable {P:Program} {K:Nat→Bool}

def DrawOk (P:Program) (X:RunF):Prop :=
  ∀ {id:Nat} {ops:Array Oper} {s0:Nat} {ro:Option Nat} {m:Nat} {Fb:Nat→Prop} {β:Nat→Bk} {n:Nat} {h:Hps} {e:Tr} {a:Act} {w:World} {x:Ex} {e':Tr} {n':Nat} {h':Hps} {Q:Exit→Act→World→Prop},
    St P s0 ro m Fb β n h e a w→drawOk (Region.before ops) ops (ops.toList.map (cOper P m ops))=true→runDraw stride (callX (cFk K P) X) (ops.toList.map (cOper P m ops)) (cUn P m ops) (cBar P m ops) [] e n h = .ok x e' n' h' →
    (∀ β' a' w',St P s0 ro m Fb β' n' h' e' a' w'→Adv β (Lt n) h w β' (Lt n') h' w'→Q (exOf x) a' w') → (Code.region id ops true).wpIn (FR ro) 0 P Q a w

theorem seqR_inv {X:RunF} {b:DCode} {r:Re} {x:Ex} {e':Tr} {n':Nat} {h':Hps} (hd:seqR X b r = .ok x e' n' h') :
    ∃ x1 e1 n1 h1,r = .ok x1 e1 n1 h1 ∧ ((x1 = .normal∧X b e1 n1 h1 = .ok x e' n' h') ∨ (x1 ≠ .normal∧x1=x∧e1=e'∧n1=n'∧h1=h')):=by
  cases r with
  | bad=>cases hd
  | ok x1 e1 n1 h1 =>
    refine ⟨x1,e1,n1,h1,rfl,?_⟩
    cases x1 with
    | normal=>exact .inl ⟨rfl,hd⟩
    | exit i=>cases hd; exact .inr ⟨(fun h=>by cases h),rfl,rfl,rfl,rfl⟩
    | ret=>cases hd; exact .inr ⟨(fun h=>by cases h),rfl,rfl,rfl,rfl⟩

theorem stepR_scope {b:Frame} {a:Act} {k:List Item} {cs:List Frame} {w:World} {c:Code}:Go.step P (lone (b.atR a (.code (.scope c)::k)) cs w) = .next (lone (b.atR a (.code c :: .inScope c::k)) cs w) :=
  step_lone_go (by simp [stepG,stepG.exec,Frame.atR])
theorem stepR_inScope {b:Frame} {a:Act} {k:List Item} {cs:List Frame} {w:World} {c:Code}:Go.step P (lone (b.atR a (.inScope c::k)) cs w) = .next (lone (b.atR a k) cs w) :=
  step_lone_go (by simp [stepG,stepG.exec,Frame.atR])
theorem wpIn_scope {F:Fence} {n:Nat} {Q:Exit→Act→World→Prop} {a:Act} {w:World} {c:Code} (h:c.wpIn F n P (Exit.noGoto Q) a w) : (Code.scope c).wpIn F n P Q a w:=by
  intro b k cs hro hb hr
  have h0 : (lone (b.atR a (.code (.scope c)::k)) cs w).fenced P F:=fenced_calm hb hr rfl
  obtain ⟨e,a₁,w₁,hq,harr⟩:=h b (.inScope c::k) cs hro hb hr
  cases e with
  | normal=>exact ⟨.normal,a₁,w₁,hq,.head h0 stepR_scope (StepsIn.trans harr (.one (fenced_calm hb hr rfl) stepR_inScope))⟩
  | exit id' =>
    have hx:exitTo id' (.inScope c::k)=exitTo id' k:=by simp [exitTo]
    exact ⟨.exit id',a₁,w₁,hq,fun k' hk => .head h0 stepR_scope (harr.1 k' (by rw [hx]; exact hk)),
      fun hr' hk=>let ⟨k₁,h1,h2⟩:=harr.2 hr' (by rw [hx]; exact hk); ⟨k₁,h1,.head h0 stepR_scope h2⟩⟩
  | goto l=>exact hq.elim
  | ret=>exact ⟨_,a₁,w₁,hq,.of_steps (.one h0 stepR_scope) harr⟩
  | panic ch=>exact ⟨_,a₁,w₁,hq,.of_steps (.one h0 stepR_scope) harr⟩
  | outgrown=>exact ⟨_,a₁,w₁,hq,.of_steps (.one h0 stepR_scope) harr⟩

section
variable {U:Us} {RC:Nat→Code→DCode→Prop} {s0:Nat} {ro:Option Nat} {m:Nat} {Fb:Nat→Prop} {β:Nat→Bk} {n:Nat} {h:Hps} {e:Tr} {a:Act} {w:World}
theorem sameL_eq {ih:D→D→Bool} (hi:∀ a b,ih a b=true→a=b):∀ {l m:List D},sameL ih l m=true→l=m
  | [],[],_=>rfl
  | [],_::_,h=>by cases h
  | _::_,[],h=>by cases h
  | a::l,b::m,h=>by
    have h1:Bool.rec (motive:=fun _=>Bool) false (sameL ih l m) (ih a b)=true:=h
    cases hb:ih a b with
    | false=>rw [hb] at h1; cases h1
    | true=>rw [hb] at h1; rw [hi a b hb,sameL_eq hi h1]
theorem eqB_true {a b:Bool} (h:eqB a b=true):a=b:=by cases a <;> cases b <;> first | rfl | cases h
theorem sameD_eq:∀ (f:Nat) (a b:D),sameD f a b=true→a=b
  | 0,_,_,h=>by cases h
  | f+1,a,b,h=>by
    have hL:∀ {l m:List D},sameL (sameD f) l m=true→l=m:=sameL_eq (sameD_eq f)
    replace h:sameD0 (sameD f) a b=true:=h
    cases a with
    | junk=>cases b <;> first | rfl | cases h
    | nilp=>cases b <;> first | rfl | cases h
    | nilf=>cases b <;> first | rfl | cases h
    | nili=>cases b <;> first | rfl | cases h
    | nilm=>cases b <;> first | rfl | cases h
    | nils=>cases b <;> first | rfl | cases h
    | int k m =>
      cases b with
      | int k' m' =>
        obtain ⟨h1,h2⟩:=and2 h
        rw [eqI_eq] at h2
        rw [kc_inj h1,of_decide_eq_true h2]
      | _=>cases h
    | bool x=>cases b with
      | bool y=>rw [eqB_true h]
      | _=>cases h
    | str s=>cases b with
      | str s'=>replace h:eqN s s'=true:=h; rw [eqN_eq] at h; rw [eq_of_beq h]
      | _=>cases h
    | ptr r i j=>cases b with
      | ptr r' i' j'=>obtain ⟨h1,h2,h3⟩:=and3 h; rw [beq_eq h1,beq_eq h2,beq_eq h3]
      | _=>cases h
    | ip e j=>cases b with
      | ip e' j'=>obtain ⟨h1,h2⟩:=and2 h; rw [beq_eq h1,sameD_eq f _ _ h2]
      | _=>cases h
    | sl k es sp fl=>cases b with
      | sl k' es' sp' fl' =>
        obtain ⟨h1,h2,h3⟩:=and3 h
        obtain ⟨h3,h4⟩:=and2 h3
        rw [beq_eq h1,eqB_true h2,hL h3,hL h4]
      | _=>cases h
    | ms k r o l fl=>cases b with
      | ms k' r' o' l' fl' =>
        obtain ⟨h1,h2,h3⟩:=and3 h
        obtain ⟨h3,h4,h5⟩:=and3 h3
        rw [beq_eq h1,beq_eq h2,beq_eq h3,beq_eq h4,eqB_true h5]
      | _=>cases h
    | mp r=>cases b with
      | mp r'=>rw [beq_eq h]
      | _=>cases h
    | yld r=>cases b with
      | yld r'=>rw [beq_eq h]
      | _=>cases h
    | fn g x c=>cases b with
      | fn g' x' c'=>obtain ⟨h1,h2,h3⟩:=and3 h; rw [beq_eq h1,hL h2,hL h3]
      | _=>cases h
    | iface t d=>cases b with
      | iface t' d'=>obtain ⟨h1,h2⟩:=and2 h; rw [beq_eq h1,sameD_eq f _ _ h2]
      | _=>cases h
    | agg cs=>cases b with
      | agg cs'=>rw [hL h]
      | _=>cases h
    | tup cs=>cases b with
      | tup cs'=>rw [hL h]
      | _=>cases h
theorem sameT_get {p:Po}:∀ {us:List Po} {a b:Tr},sameT us a b=true→p∈us→get p a=get p b
  | q::us,a,b,h,hp=>by
    obtain ⟨h1,h2⟩:=and2 (show Bool.and (sameD 1000 (get q a) (get q b)) (sameT us a b)=true from h)
    rcases List.mem_cons.1 hp with rfl | hp
    · exact sameD_eq _ _ _ h1
    · exact sameT_get h2 hp
theorem sameM_eq:∀ {a b:List (D×D)},sameM a b=true→a=b
  | [],[],_=>rfl
  | [],_::_,h=>by cases h
  | _::_,[],h=>by cases h
  | p::a,q::b,h=>by
    obtain ⟨h1,h2,h3⟩:=and3 (show Bool.and (sameD 1000 p.1 q.1) (Bool.and (sameD 1000 p.2 q.2) (sameM a b))=true from h)
    rw [sameM_eq h3,Prod.ext (sameD_eq _ _ _ h1) (sameD_eq _ _ _ h2)]
theorem sameO_eq {a b:Ob} (h:sameO a b=true):a=b:=by
  cases a with
  | none=>cases b <;> first | rfl | cases h
  | row k es=>cases b with
    | row k' es'=>obtain ⟨h1,h2⟩:=and2 h; rw [beq_eq h1,sameL_eq (sameD_eq 1000) h2]
    | _=>cases h
  | map es=>cases b with
    | map es'=>rw [sameM_eq h]
    | _=>cases h
  | mit q=>cases b with
    | mit q'=>rw [beq_eq h]
    | _=>cases h
  | loop=>cases h
theorem get_lf:∀ (p:Po),get p .lf = .junk
  | .h=>rfl
  | .o p=>get_lf p
  | .i p=>get_lf p
theorem not_true {b:Bool} (h:Bool.not b=true):b=false:=by cases b <;> first | rfl | cases h
theorem lowT_get {n:Nat} {p:Po}:∀ {us:List Po} {t:Tr},lowT us n t=true→p∈us→hasR n 20 (get p t)=false
  | q::us,t,h,hp=>by
    obtain ⟨h1,h2⟩:=and2 (show Bool.and (Bool.not (hasR n 20 (get q t))) (lowT us n t)=true from h)
    rcases List.mem_cons.1 hp with rfl | hp
    · exact not_true h1
    · exact lowT_get h2 hp
theorem only_out {p:Po}:∀ {us:List Po} {e:Tr},p ∉ us→get p (onlyT us e) = .junk
  | [],_,_=>get_lf p
  | q::us,e,h=>by
    show get p (putT q (get q e) (onlyT us e)) = .junk
    have hne:p≠q:=fun e1=>by rw [e1] at h; exact h List.mem_cons_self
    rw [get_put_ne _ _ _ _ hne]
    exact only_out (fun h1=>h (List.mem_cons_of_mem _ h1))
theorem only_in {p:Po}:∀ {us:List Po} {e:Tr},p∈us→get p (onlyT us e)=get p e
  | q::us,e,h=>by
    show get p (putT q (get q e) (onlyT us e))=_
    by_cases e1:p=q
    · rw [e1,get_put_same]
    · rw [get_put_ne _ _ _ _ e1]
      exact only_in ((List.mem_cons.1 h).resolve_left e1)
theorem EnvOk.only {M:Nat→Prop} {U:Us} {tmps:Array Value} {us:List Po} {e:Tr} (E:EnvOk w M β U tmps e):EnvOk w M β U tmps (onlyT us e):=by
  refine ⟨E.1,fun t ht=>?_⟩
  by_cases h:po t∈us
  · rw [only_in h]; exact E.2 t ht
  · rw [only_out h]; exact .junk
theorem EnvOk.again {M:Nat→Prop} {U:Us} {tmps:Array Value} {us:List Po} {e e2:Tr} (E:EnvOk w M β U tmps e2) {n:Nat} (hs:sameT us (onlyT us e) e2=true) (hl:lowT us n (onlyT us e)=true):EnvOk w M β (Lt n) tmps (onlyT us e):=by
  refine ⟨E.1,fun t ht=>?_⟩
  by_cases h:po t∈us
  · have h1:=E.2 t ht
    rw [← sameT_get hs h] at h1
    exact Rep.lows 20 h1 (lowT_get hl h)
  · rw [only_out h]; exact .junk

def EntsOk (w:World) (M:Nat→Prop) (β:Nat→Bk) (U:Us) (ents:Array MapEntry) (es:List (D×D)):Prop :=
  ∀ i,i < es.length→Rep w M β U (ents.getD i default).key (es.getD i (.junk,.junk)).1∧Rep w M β U (ents.getD i default).val (es.getD i (.junk,.junk)).2

end

theorem exec_bad (F:Nat→DFn) (f:Nat) (e:Tr) (n:Nat) (h:Hps):exec F f .bad e n h = .bad:=by cases f <;> rfl

theorem loop_ok {fuel:Nat} (hIH:∀ f,f≤fuel→CodeOk P (exec (cFk K P) f)) {c:Code} {s0:Nat} {ro:Option Nat} {m:Nat} {Fb:Nat→Prop} {Q:Exit→Act→World→Prop} {x:Ex} {e':Tr} {n':Nat} {h':Hps} :
    ∀ (f:Nat),f≤fuel+1→∀ {β:Nat→Bk} {n:Nat} {h:Hps} {e:Tr} {a:Act} {w:World},St P s0 ro m Fb β n h e a w→exec (cFk K P) f (.loop (cCode P m c)) e n h = .ok x e' n' h' →
      (∀ β' a' w',St P s0 ro m Fb β' n' h' e' a' w'→Adv β (Lt n) h w β' (Lt n') h' w'→Q (exOf x) a' w')→Code.roundsIn (FR ro) 0 P c Q f a w:=by
  intro f
  induction f with
  | zero=>intro _ β n h e a w S hd hQ; cases hd
  | succ f ih =>
    intro hf β n h e a w S hd hQ
    rw [roundsIn_succ]
    obtain ⟨x1,e1,n1,h1,g1,g2⟩:=seqR_inv (show seqR (exec (cFk K P) f) (.loop (cCode P m c)) (exec (cFk K P) f (cCode P m c) e n h) = .ok x e' n' h' from hd)
    refine hIH f (by omega) S g1 (fun β1 a1 w1 S1 A1=>?_)
    rcases g2 with ⟨rfl,g2⟩ | ⟨g2,rfl,rfl,rfl,rfl⟩
    · exact ih (by omega) S1 g2 (fun β2 a2 w2 S2 A2=>hQ β2 a2 w2 S2 (A1.trans A2))
    · have:=hQ β1 a1 w1 S1 A1
      cases x1 with
      | normal=>exact absurd rfl g2
      | exit i=>exact this
      | ret=>exact this

theorem exec_ok (hD:∀ X,CodeOk P X → (∀ e n h,X .bad e n h = .bad)→DrawOk (K:=K) P X) (hS:∀ X,CodeOk P X → (∀ e n h,X .bad e n h = .bad)→SoloOk K P X):∀ fuel,CodeOk P (exec (cFk K P) fuel):=by
  intro fuel
  induction fuel using Nat.strongRecOn with
  | _ fuel IH =>
  cases fuel with
  | zero=>intro c s0 ro m Fb β n h e a w x e' n' h' Q S hd hQ; cases hd
  | succ f =>
    have hX:CodeOk P (exec (cFk K P) f):=@IH f (Nat.lt_succ_self _)
    have hXb:=exec_bad (cFk K P) f
    intro c s0 ro m Fb β n h e a w x e' n' h' Q S hd hQ
    replace hd:step (cFk K P) (exec (cFk K P) f) (cCode P m c) e n h = .ok x e' n' h':=hd
    cases c with
    | skip=>cases hd; exact wpIn_skip (hQ _ _ _ S (Adv.refl _ _ _ _))
    | label l=>cases hd; exact wpIn_label (hQ _ _ _ S (Adv.refl _ _ _ _))
    | ret=>cases hd; exact wpIn_ret (hQ _ _ _ S (Adv.refl _ _ _ _))
    | exit i=>cases hd; exact wpIn_exit (hQ _ _ _ S (Adv.refl _ _ _ _))
    | seq c1 c2 =>
      obtain ⟨x1,e1,n1,h1,g1,g2⟩:=seqR_inv (show seqR (exec (cFk K P) f) (cCode P m c2) (exec (cFk K P) f (cCode P m c1) e n h) = .ok x e' n' h' from hd)
      refine wpIn_seq (hX S g1 (fun β1 a1 w1 S1 A1=>?_))
      rcases g2 with ⟨rfl,g2⟩ | ⟨g2,rfl,rfl,rfl,rfl⟩
      · exact hX S1 g2 (fun β2 a2 w2 S2 A2=>hQ β2 a2 w2 S2 (A1.trans A2))
      · have:=hQ β1 a1 w1 S1 A1
        cases x1 with
        | normal=>exact absurd rfl g2
        | exit i=>exact this
        | ret=>exact this
    | cond c0 c1 c2 =>
      replace hd:condR (exec (cFk K P) f) (cCode P m c1) (cCode P m c2) e n h (ev e (cO m c0)) = .ok x e' n' h':=hd
      have hev:=ev_ok S.env S.sz c0
      revert hd hev
      generalize ev e (cO m c0)=G
      intro hd hev
      cases G with
      | bool t =>
        refine wpIn_cond (Rep.bool_inv hev) ?_
        cases t with
        | false=>exact hX S hd hQ
        | true=>exact hX S hd hQ
      | _=>cases hd
    | block i b =>
      replace hd:blockR i (exec (cFk K P) f (cCode P m b) e n h) = .ok x e' n' h':=hd
      cases hb:exec (cFk K P) f (cCode P m b) e n h with
      | bad=>rw [hb] at hd; cases hd
      | ok x1 e1 n1 h1 =>
        rw [hb] at hd
        refine wpIn_block (hX S hb (fun β1 a1 w1 S1 A1=>?_))
        cases x1 with
        | normal=>cases hd; exact hQ β1 a1 w1 S1 A1
        | ret=>cases hd; exact hQ β1 a1 w1 S1 A1
        | exit j =>
          replace hd:Bool.rec (motive:=fun _=>Re) (.ok (.exit j) e1 n1 h1) (.ok .normal e1 n1 h1) (Nat.beq j i) = .ok x e' n' h':=hd
          show if j=i then _ else _
          cases hb2:Nat.beq j i with
          | true =>
            rw [hb2] at hd
            cases hd
            rw [if_pos (beq_eq hb2)]
            exact hQ β1 a1 w1 S1 A1
          | false =>
            rw [hb2] at hd
            cases hd
            rw [if_neg (fun e=>by rw [e,Nat.beq_refl] at hb2; cases hb2)]
            exact hQ β1 a1 w1 S1 A1
    | loop b =>
      exact wpIn_loop_rounds (f+1) (loop_ok (fuel:=f) (fun g hg=>@IH g (by omega)) (f+1) (Nat.le_refl _) S hd hQ)
    | scope b =>
      refine wpIn_scope ?_
      refine hX S (show exec (cFk K P) f (cCode P m b) e n h = .ok x e' n' h' from hd) (fun β1 a1 w1 S1 A1=>?_)
      have:=hQ β1 a1 w1 S1 A1
      cases x <;> exact this
    | region id ops dr =>
      cases dr with
      | false =>
        refine wpIn_region ?_
        rw [List.range_eq_range']
        have:=reg_ok hX hXb (hS _ hX hXb) (ops:=ops) (Q:=Q) ops.toList 0 (fun i hi=>by simp) S (show runOps (callX (cFk K P) (exec (cFk K P) f)) (ops.toList.map (cOper P m ops)) e n h = .ok x e' n' h' from hd) hQ
        simpa using this
      | true =>
        by_cases hdo:drawOk (Region.before ops) ops (ops.toList.map (cOper P m ops))=true
        · have hcc:cCode P m (.region id ops true) = .draw (cUn P m ops) (cBar P m ops) (ops.toList.map (cOper P m ops)):=if_pos hdo
          rw [hcc] at hd
          exact hD _ hX hXb S hdo hd hQ
        · have hcc:cCode P m (.region id ops true) = .bad:=if_neg hdo
          rw [hcc] at hd
          cases hd
    | rangeFunc g ps c1 c2 =>
      by_cases hps:ps.toList.all (fun p=>decide (p < m))=true
      · have hcc:cCode P m (.rangeFunc g ps c1 c2) = .rng (cO m g) (ps.toList.map po) (cCode P m c1) (cCode P m c2):=if_pos hps
        rw [hcc] at hd
        refine rng_ok hX hXb S (fun p hp=>?_) hd hQ
        have:=List.all_eq_true.1 hps p (Array.mem_toList_iff.2 hp)
        simpa using this
      · have hcc:cCode P m (.rangeFunc g ps c1 c2) = .bad:=if_neg hps
        rw [hcc] at hd
        cases hd
    | _=>cases hd
end
end Go.Proofs.Ytpbpmpabndgeeaa
