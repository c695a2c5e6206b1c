/- All code: what its run over data comes to is what it comes to in the model. No condition. -/
import Derived.Test.YtpbpmpabndgeeaaDoorA20
import Derived.Scope
import Derived.Maps.RangeRun

/- Regions that keep their order; operations as steps. No condition. -/
set_option linter.unusedSimpArgs false
set_option linter.unusedVariables false
namespace Go.Proofs.YtpbpmpabndgeeaaDoor
open Go

def notCall : DOp → Bool
  | .call _ _ => false
  | .inv _ _ _ => false
  | _ => true

section
variable {U : Us} {P : Program} {K : Nat → Bool} {RC : Nat → Code → DCode → Prop} {s0 : Nat} {ro : Option Nat} {m : Nat} {Fb : Nat → Prop} {β : Nat → Bk} {n : Nat} {h : Hps} {e : Tr} {a : Act} {w : World}

theorem Adv.upL (I : Inv RC β (Lt n) Fb h w) : Adv β (Lt n) h w β (Lt (n + 1)) h w := by
  have := Adv.up (N := n) I
  rwa [Ad_lt] at this
theorem Inv.upL (I : Inv RC β (Lt n) Fb h w) : Inv RC β (Lt (n + 1)) Fb h w := by
  have := Inv.up (N := n) I
  rwa [Ad_lt] at this

theorem notCall_cT {t : TypeId} {f : Bool → TypeInfo → DOp} (hf : ∀ b i,notCall (f b i) = true) : notCall (cT P t f) = true := by
  unfold cT; split
  · split
    · exact hf _ _
    · rfl
  · rfl
theorem cOp_call (o : Oper) : (∃ c f,o.op = .call c ∧ c.callee = .value f) ∨ (∃ c x k,o.op = .call c ∧ c.callee = .invoke x k) ∨ notCall (cOp P m o) = true := by
  obtain ⟨dst,op,ty,pos,aft,g⟩ := o
  cases op with
  | call c =>
    cases hc : c.callee with
    | value f => exact .inl ⟨c,f,rfl,hc⟩
    | invoke r k => exact .inr (.inl ⟨c,r,k,rfl,hc⟩)
    | builtin b =>
      right; right
      show notCall (cCall P m c) = true
      unfold cCall
      rw [hc]
      cases b <;> first | rfl | (simp only [cLen,cApp,cMM,cMdel]; repeat' split) <;> rfl
  | load t x => right; right; show notCall (cT P t fun ag i => .load ag i.size (cO m x)) = true; exact notCall_cT (fun _ _ => rfl)
  | store t x y => right; right; show notCall (cT P t fun ag i => if ag = false ∧ i.size ≠ 1 then .bad else .store ag i.size (cO m x) (cO m y)) = true; refine notCall_cT (fun _ _ => ?_); split <;> rfl
  | field T x f =>
    right; right
    show notCall (cFld P m T x f) = true
    unfold cFld
    repeat' split
    · exact notCall_cT (fun _ _ => rfl)
    · rfl
    · rfl
  | binOp op t x y s =>
    right; right
    show notCall (cBin P m op t x y) = true
    unfold cBin
    split
    · unfold cEq; repeat' split
      all_goals rfl
    · unfold cEq; repeat' split
      all_goals rfl
    · rfl
  | unOp op t x => right; right; cases op <;> rfl
  | makeMap T r => right; right; cases r <;> rfl
  | alloc T => right; right; show notCall (cNew P T) = true; unfold cNew; repeat' split
               all_goals rfl
  | box T x => right; right; show notCall (cBox P m T x) = true; unfold cBox; repeat' split
               all_goals rfl
  | build T ps => right; right; show notCall (cBuild P m T ps.toList) = true; unfold cBuild; repeat' split
                  all_goals rfl
  | buildSlice T l ps => right; right; show notCall (cBsl P m T l ps.toList) = true; unfold cBsl; repeat' split
                         all_goals rfl
  | fieldAddr T x f => right; right; show notCall (cFaddr P m T x f) = true; unfold cFaddr; repeat' split
                       all_goals rfl
  | indexAddr T x i => right; right; show notCall (cIaddr P m T x i) = true; unfold cIaddr; repeat' split
                       all_goals rfl
  | index T x i => right; right; show notCall (match P.underlying T with | some .string => .sidx (cO m x) (cO m i) | some (.array n e) => cT P e fun ag j => .aidx ag j.size n (cO m x) (cO m i) | _ => .bad) = true; split; · rfl
                   · exact notCall_cT (fun _ _ => rfl)
                   · rfl
  | slice T x lo hi mx => right; right; show notCall (cSlice P m T x lo hi mx) = true; unfold cSlice; repeat' split
                          all_goals rfl
  | convert s t x => right; right; show notCall (cCvt P m s t x) = true; unfold cCvt; repeat' split
                     all_goals rfl
  | makeFunc fn x c => right; right; show notCall (cFn1 m fn x c) = true; unfold cFn1; split <;> rfl
  | makeSlice T l c => right; right; show notCall (cMksl P m T l c) = true; unfold cMksl; repeat' split
                       all_goals rfl
  | lookup T x i ok => right; right; show notCall (cLook P m T x i ok) = true; unfold cLook; repeat' split
                       all_goals rfl
  | mapUpdate T x i v => right; right; show notCall (cMupd P m T x i v) = true; unfold cMupd; repeat' split
                         all_goals rfl
  | makeInterface T x => right; right; show notCall (cMkif P m T x) = true; unfold cMkif; repeat' split
                         all_goals rfl
  | typeAssert x xT T ok => right; right; show notCall (cTas P m T x ok) = true; unfold cTas; repeat' split
                            all_goals rfl
  | range T x => right; right; show notCall (cMrng P m T x) = true; unfold cMrng; repeat' split
                 all_goals rfl
  | _ => exact .inr (.inr rfl)

theorem opC_notCall {call : CallF} {o : DOp} (ho : notCall o = true) : opC call e n h o = opD e n h o := by cases o <;> first | rfl | cases ho

theorem not_defer {o : Oper} {d : D} {n' : Nat} {h' : Hps} (hd : opD e n h (cOp P m o) = .ok d n' h') : ∀ c,o.op ≠ .defer c := by
  intro c hc
  have : cOp P m o = .bad := by unfold cOp; rw [hc]
  rw [this] at hd
  cases hd

theorem resolve_val {c : Call} {f : Operand} (hc : c.callee = .value f) {fn : Fn} {A C : Array Value} (hf : a.eval f = .func fn A C) (ty : TypeId) :
    (do let d ← resolve a.eval c ty; invoke d.target d.args : Sem Next).run P w = (invoke (.fn fn C) (A ++ c.args.map a.eval)).run P w := by
  simp only [resolve,hc,Sem.run_bind,hf,Deferred.ofValue,Sem.run_pure,Result.andThen_ok]

theorem mthF_mem {t f : Nat} {mm : Option (Bool × Nat)} : ∀ {tb : List (Nat × Nat × Option (Bool × Nat))},mthF tb t = .some f mm → (t,f,mm) ∈ tb
  | [],e => by cases e
  | p :: tb,e => by
    have e1 : Bool.rec (motive := fun _ => MF) (mthF tb t) (.some p.2.1 p.2.2) (Nat.beq p.1 t) = .some f mm := e
    cases hb : Nat.beq p.1 t with
    | true =>
      rw [hb] at e1
      have := Nat.eq_of_beq_eq_true hb
      obtain ⟨p1,p2,p3⟩ := p
      simp only at this e1
      cases e1
      rw [this]
      exact List.mem_cons_self
    | false => rw [hb] at e1; exact List.mem_cons_of_mem _ (mthF_mem e1)
theorem recv_ok (I : Inv RC β U Fb h w) {t : TypeId} {k : Method} {f : Nat} {mm : Option (Bool × Nat)} (hk : mthd P t k = some (f,mm)) {v : Value} {x d : D} {n' : Nat} {h' : Hps} (hv : Rep w (Mk β Fb h) β U v x) (hr : recvD h x mm = .ok d n' h') (nm : String) :
    ∃ pr r,k.path = #[] ∧ k.func = some (f,pr) ∧ (receiverAt t (.val v) pr (some nm)).run P w = .ok r w ∧ Rep w (Mk β Fb h) β U r d := by
  unfold mthd at hk
  split at hk
  · rename_i hp
    have hp' : k.path = #[] := Array.isEmpty_iff.1 hp
    split at hk
    · rename_i g pr hg
      split at hk
      · rename_i q hu
        cases hk
        cases hr
        refine ⟨true,v,hp',hg,?_,hv⟩
        unfold receiverAt
        rw [Sem.run_bind,run_underlying hu]
        rfl
      · rename_i q hu
        split at hk
        · rename_i i dd hi hd
          split at hk
          · cases hk
          · cases hk
            obtain ⟨a0,v',rfl,h1,h2,_⟩ := loadD_ok (P := P) (N := 0) I hi hd hv hr
            refine ⟨false,v',hp',hg,?_,h2⟩
            unfold receiverAt
            rw [Sem.run_bind,run_underlying hu]
            exact h1
        · cases hk
      · rename_i dd hn hu
        cases hk
        cases hr
        refine ⟨false,v,hp',hg,?_,hv⟩
        unfold receiverAt
        rw [Sem.run_bind,run_underlying hu,Result.andThen_ok]
        cases dd <;> first | rfl | exact (hn _ rfl).elim
      · cases hk
    · cases hk
  · cases hk
theorem method_ok (I : Inv RC β U Fb h w) (hs : 0 < P.types.size) {name : String} {t : TypeId} {f : Nat} {mm : Option (Bool × Nat)} (hi : invOf P name t = some (t,f,mm)) {v : Value} {x d : D} {n' : Nat} {h' : Hps} (hv : Rep w (Mk β Fb h) β U v x) (hr : recvD h x mm = .ok d n' h') :
    ∃ r,(method (P.types.size + Made.depth) t v name).run P w = .ok (f,r) w ∧ Rep w (Mk β Fb h) β U r d := by
  unfold invOf at hi
  split at hi
  · rename_i ti hti
    split at hi
    · rename_i k hk
      cases hm : mthd P t k with
      | none => rw [hm] at hi; cases hi
      | some p =>
        rw [hm] at hi
        obtain ⟨p1,p2⟩ := p
        simp only [Option.map_some,Option.some.injEq,Prod.mk.injEq,true_and] at hi
        obtain ⟨rfl,rfl⟩ := hi
        obtain ⟨pr,r,h1,h2,h3,h4⟩ := recv_ok I hm hv hr ((name.splitOn ".").getLastD name)
        refine ⟨r,?_,h4⟩
        obtain ⟨s,e⟩ : ∃ s,P.types.size + Made.depth = s + 1 := ⟨P.types.size + Made.depth - 1,by omega⟩
        rw [e]
        unfold method
        simp only [Sem.run_bind,typeInfo,run_program,Result.andThen_ok,hti,Sem.run_pure,hk,h1]
        simp only [follow,Sem.run_pure,Result.andThen_ok,h2]
        rw [if_pos (by rfl)]
        simp only [Sem.run_bind,h3,Result.andThen_ok,Sem.run_pure]
    · cases hi
  · cases hi
theorem inv_ok {X : RunF} (hX : CodeOk P X) (hXb : XB P X) (S : St P s0 ro m Fb β n h e a w) {o : Oper} {c : Call} {x : Operand} {name : String} (ho : o.op = .call c) (hc : c.callee = .invoke x name) {d : D} {n' : Nat} {h' : Hps}
    (hd : opC (callX (cFk K P) X) e n h (cOp P m o) = .ok d n' h') {next : Act → World → Prop} {Q : Exit → Act → World → Prop}
    (hnext : ∀ v β' w',Rep w' (Mk β' Fb h') β' (Lt n') v d → Inv (RCc P) β' (Lt n') Fb h' w' → Adv β (Lt n) h w β' (Lt n') h' w' → next (a.put o.dst v) w') : o.wpIn (FR ro) 0 P a w next Q := by
  have hco : cOp P m o = cInv P m x name c.args := by unfold cOp; rw [ho]; show cCall P m c = _; unfold cCall; rw [hc]
  rw [hco] at hd
  unfold cInv at hd
  split at hd
  · rename_i hsz
    refine ⟨fun _ _ => trivial,?_⟩
    rw [Oper.semAt_eq _ _ _ (fun c h => by rw [ho] at h; cases h)]
    have hex : execOp a.eval o = (do let d ← resolve a.eval c o.type; invoke d.target d.args : Sem Next) := by unfold execOp; rw [ho]
    rw [hex]
    have hev := ev_ok S.env S.sz x
    have hvs := evs_ok S.env S.sz c.args
    have Au := Adv.upL S.inv
    have Iu := S.inv.upL
    replace hd : invC (callX (cFk K P) X) n h ((List.range P.types.size).filterMap (invOf P name)) (evs e (cOs m c.args)) (ev e (cO m x)) = .ok d n' h' := hd
    revert hd hev
    generalize ev e (cO m x) = G
    intro hev hd
    cases G with
    | iface t d0 =>
      cases hv : a.eval x with
      | iface t' v0 =>
        rw [hv] at hev
        cases hev with
        | iface hv0 =>
          replace hd : invM (callX (cFk K P) X) n h d0 (evs e (cOs m c.args)) (mthF ((List.range P.types.size).filterMap (invOf P name)) t) = .ok d n' h' := hd
          cases hm : mthF ((List.range P.types.size).filterMap (invOf P name)) t with
          | none => rw [hm] at hd; cases hd
          | some f mm =>
            rw [hm] at hd
            obtain ⟨t2,_,ht2⟩ := List.mem_filterMap.1 (mthF_mem hm)
            have ht3 : t2 = t := by
              unfold invOf at ht2
              split at ht2
              · split at ht2
                · cases hq : mthd P t2 ‹Method› with
                  | none => rw [hq] at ht2; cases ht2
                  | some p => rw [hq] at ht2; cases ht2; rfl
                · cases ht2
              · cases ht2
            rw [ht3] at ht2
            replace hd : invR (callX (cFk K P) X) n h f (evs e (cOs m c.args)) (recvD h d0 mm) = .ok d n' h' := hd
            cases hrc : recvD h d0 mm with
            | bad => rw [hrc] at hd; cases hd
            | ok dr n1 h1 =>
              rw [hrc] at hd
              obtain ⟨r,hr1,hr2⟩ := method_ok (RC := RCc P) S.inv hsz ht2 hv0 hrc
              have hargs : RepL w (Mk β Fb h) β (Lt n) (#[r] ++ c.args.map a.eval) (appL [] (appL (dr :: evs e (cOs m c.args)) [])) := by
                rw [appL_eq,appL_eq,List.append_nil,List.nil_append]
                exact (RepL.one hr2).app ⟨hvs.1,hvs.2⟩
              have hargs1 := hargs.adv Au
              replace hd : callFn X (n + 1) h (appL [] (appL (dr :: evs e (cOs m c.args)) [])) (cFk K P f) = .ok d n' h' := hd
              obtain ⟨fn',cc,f1,f2,f3,f4⟩ := callFn_ok hX hXb Iu hargs1.1 hargs1.2 hd
              have hrun : (do let d ← resolve a.eval c o.type; invoke d.target d.args : Sem Next).run P w = .ok (.enter f (#[r] ++ c.args.map a.eval)) w := by
                simp only [resolve,hc,Sem.run_bind,Sem.run_pure,Result.andThen_ok,invoke,hv]
                have e0 : (#[Value.iface t v0] ++ c.args.map a.eval)[0]? = some (.iface t v0) := by rw [Array.getElem?_append_left (by simp)]; rfl
                have e1 : (#[Value.iface t v0] ++ c.args.map a.eval).extract 1 (#[Value.iface t v0] ++ c.args.map a.eval).size = c.args.map a.eval := by
                  apply Array.ext'
                  simp
                  exact List.take_of_length_le (by simp)
                rw [e0,e1]
                simp only [callMethod,Sem.run_bind,run_program,Result.andThen_ok,hr1]
                exact run_callFunc f1 f2 f3
              rw [hrun]
              refine ⟨FR_depth ro,CallsIn.mono (f4 ro) (fun en w' hp => ?_)⟩
              obtain ⟨v,β',rfl,p1,p2,p3⟩ := hp
              exact hnext v β' w' p1 p2 (Au.trans p3)
      | _ => rw [hv] at hev; cases hev
    | _ => cases hd
  · cases hd
theorem call_ok {X : RunF} (hX : CodeOk P X) (hXb : XB P X) (S : St P s0 ro m Fb β n h e a w) {o : Oper} {c : Call} {f : Operand} (ho : o.op = .call c) (hc : c.callee = .value f) {d : D} {n' : Nat} {h' : Hps}
    (hd : callX (cFk K P) X (n + 1) h (ev e (cO m f)) (evs e (cOs m c.args)) = .ok d n' h') {next : Act → World → Prop} {Q : Exit → Act → World → Prop}
    (hnext : ∀ v β' w',Rep w' (Mk β' Fb h') β' (Lt n') v d → Inv (RCc P) β' (Lt n') Fb h' w' → Adv β (Lt n) h w β' (Lt n') h' w' → next (a.put o.dst v) w') : o.wpIn (FR ro) 0 P a w next Q := by
  refine ⟨fun _ _ => trivial,?_⟩
  rw [Oper.semAt_eq _ _ _ (fun c h => by rw [ho] at h; cases h)]
  have hex : execOp a.eval o = (do let d ← resolve a.eval c o.type; invoke d.target d.args : Sem Next) := by unfold execOp; rw [ho]
  rw [hex]
  have hev := ev_ok S.env S.sz f
  have hvs := evs_ok S.env S.sz c.args
  have Au := Adv.upL S.inv
  have Iu := S.inv.upL
  revert hd hev
  generalize ev e (cO m f) = G
  intro hd hev
  cases G with
  | fn g x y =>
    obtain ⟨A,C,hg,hA,hC⟩ := fn_inv hev
    rw [resolve_val hc hg]
    have hargs : RepL w (Mk β Fb h) β (Lt n) (A ++ c.args.map a.eval ++ C) (appL x (appL (evs e (cOs m c.args)) y)) := by
      rw [appL_eq,appL_eq,← List.append_assoc]
      exact (hA.app ⟨hvs.1,hvs.2⟩).app hC
    have hargs1 := hargs.adv Au
    replace hd : callFn X (n + 1) h (appL x (appL (evs e (cOs m c.args)) y)) (cFk K P g) = .ok d n' h' := hd
    obtain ⟨fn',cc,f1,f2,f3,f4⟩ := callFn_ok hX hXb Iu hargs1.1 hargs1.2 hd
    rw [show (invoke (.fn (.func g) C) (A ++ c.args.map a.eval)).run P w = _ from run_callFunc f1 f2 f3]
    refine ⟨FR_depth ro,CallsIn.mono (f4 ro) (fun en w' hp => ?_)⟩
    obtain ⟨v,β',rfl,p1,p2,p3⟩ := hp
    exact hnext v β' w' p1 p2 (Au.trans p3)
  | yld r =>
    cases hgv : a.eval f with
    | func fn A C =>
      rw [hgv] at hev
      cases hev with
      | yld hr =>
        rw [resolve_val hc hgv]
        have hargs : RepL w (Mk β Fb h) β (Lt (n + 1)) (c.args.map a.eval) (evs e (cOs m c.args)) := RepL.adv Au ⟨hvs.1,hvs.2⟩
        replace hd : round X r (n + 1) h (evs e (cOs m c.args)) (getO h r) = .ok d n' h' := hd
        obtain ⟨L,k1,k2,k3⟩ := round_ok hX Iu hargs.1 hargs.2 hd
        have hy : (invoke (.fn (.yield (β r).b) #[]) (#[] ++ c.args.map a.eval)).run P w = .ok (.round (β r).b L.fn ((L.params.zip (c.args.map a.eval)).foldl (fun tmps (t,a) => tmps.setIfInBounds t a) L.tmps) L.assign L.body) w := by
          show (Instr.yield (β r).b (#[] ++ c.args.map a.eval)).run P w = _
          rw [Array.empty_append]
          unfold Instr.yield
          simp only [Sem.run_bind,run_getL k1,Result.andThen_ok]
          rw [if_neg (fun hne => hne k2)]
          rfl
        rw [hy]
        refine ⟨FR_depth ro,RoundIn.mono k3 (fun en w' hp => ?_)⟩
        obtain ⟨v,β',rfl,p1,p2,p3⟩ := hp
        exact hnext v β' w' p1 p2 (Au.trans p3)
    | _ => rw [hgv] at hev; cases hev
  | _ => cases hd

def SoloOk (K : Nat → Bool) (P : Program) (X : RunF) : Prop := ∀ {s0 : Nat} {ro : Option Nat} {m : Nat} {Fb : Nat → Prop} {β : Nat → Bk} {n : Nat} {h : Hps} {e : Tr} {a : Act} {w : World},St P s0 ro m Fb β n h e a w →
  ∀ {o : Oper} {c : Call} {f : Operand},o.op = .call c → c.callee = .value f → ∀ {d : D} {n' : Nat} {h' : Hps},subC (callX (cFk K P) X) [] n h (ev e (cO m f)) (evs e (cOs m c.args)) = .ok d n' h' →
  ∀ {next : Act → World → Prop} {Q : Exit → Act → World → Prop},(∀ v β' w',Rep w' (Mk β' Fb h') β' (Lt (n' + 1)) v d → Inv (RCc P) β' (Lt (n' + 1)) Fb h' w' → Adv β (Lt n) h w β' (Lt (n' + 1)) h' w' → next (a.put o.dst v) w') → o.wpIn (FR ro) 0 P a w next Q

theorem op_ok {X : RunF} (hX : CodeOk P X) (hXb : XB P X) (hSo : SoloOk K P X) (S : St P s0 ro m Fb β n h e a w) {o : Oper} {d : D} {n' : Nat} {h' : Hps} (hd : opC (callX (cFk K P) X) e n h (cOp P m o) = .ok d n' h') {next : Act → World → Prop} {Q : Exit → Act → World → Prop}
    (hnext : ∀ v β' w',Rep w' (Mk β' Fb h') β' (Lt (n' + 1)) v d → Inv (RCc P) β' (Lt (n' + 1)) Fb h' w' → Adv β (Lt n) h w β' (Lt (n' + 1)) h' w' → next (a.put o.dst v) w') : o.wpIn (FR ro) 0 P a w next Q := by
  rcases cOp_call (P := P) (m := m) o with ⟨c,f,ho,hc⟩ | ⟨c,x,k,ho,hc⟩ | hn
  · have hco : cOp P m o = .call (cO m f) (cOs m c.args) := by
      unfold cOp; rw [ho]; show cCall P m c = _; unfold cCall; rw [hc]
    rw [hco] at hd
    replace hd : Bool.rec (motive := fun _ => Rd) (callX (cFk K P) X (n + 1) h (ev e (cO m f)) (evs e (cOs m c.args))) (subC (callX (cFk K P) X) [] n h (ev e (cO m f)) (evs e (cOs m c.args))) (soloB (evs e (cOs m c.args)) (ev e (cO m f))) = .ok d n' h' := hd
    cases hsb : soloB (evs e (cOs m c.args)) (ev e (cO m f)) with
    | true => rw [hsb] at hd; exact hSo S ho hc hd hnext
    | false =>
    rw [hsb] at hd
    exact call_ok hX hXb S ho hc hd (fun v β' w' h1 h2 h3 => hnext v β' w' (h1.adv (Adv.upL h2) (Sub.refl _) _ (Sub.lt (Nat.le_succ _))) h2.upL (h3.trans (Adv.upL h2)))
  · exact inv_ok hX hXb S ho hc hd (fun v β' w' h1 h2 h3 => hnext v β' w' (h1.adv (Adv.upL h2) (Sub.refl _) _ (Sub.lt (Nat.le_succ _))) h2.upL (h3.trans (Adv.upL h2)))
  · rw [opC_notCall hn] at hd
    have hnum := opD_num e n h (cOp P m o)
    rw [hd] at hnum
    cases (show n' = n from hnum)
    obtain ⟨v,w',β',h1,h2,h3,h4⟩ := (opD_ok (P := P) S.inv S.env S.sz o (fun _ => Nat.lt_irrefl n) hd).gen S.inv
    rw [Ad_lt] at h2 h3 h4
    refine ⟨fun _ _ => trivial,?_⟩
    rw [Oper.semAt_eq _ _ _ (not_defer hd)]
    rcases h1 with h1 | ⟨h1,rfl⟩
    · rw [h1]; exact hnext v β' w' h2 h3 h4
    · rw [h1]; exact hnext undef β' w' h2 h3 h4

theorem want_ok {M : Nat → Prop} {U : Us} {ops : Array Oper} {tmps : Array Value} (E : EnvOk w M β U tmps e) (hm : m ≤ tmps.size) {o : Oper} {g : Option (Po × Bool)} (hg : cG m ops o.guard = some g) {b : Bool} (hw : want e g = .ok b) : Region.wanted o (yielded ops tmps) = b := by
  unfold Region.wanted
  cases ho : o.guard with
  | none =>
    rw [ho] at hg
    cases hg
    cases hw
    rfl
  | some p =>
    obtain ⟨j,wv⟩ := p
    rw [ho] at hg
    unfold cG at hg
    simp only at hg
    split at hg
    · rename_i t ht
      split at hg
      · rename_i htm
        cases hg
        have hr := E.2 t (Nat.lt_of_lt_of_le htm hm)
        have hlt : t < tmps.size := Nat.lt_of_lt_of_le htm hm
        have hy : yielded ops tmps j = (match tmps.getD t undef with | .bool b => some b | _ => none) := by
          unfold yielded
          rw [ht]
          simp only [Option.bind_some]
          rw [Array.getElem?_eq_getElem hlt]
          have e1 : tmps.getD t undef = tmps[t] := by simp [Array.getD,hlt]
          rw [e1]
          cases tmps[t] <;> rfl
        replace hw : wantB wv (get (po t) e) = .ok b := hw
        show (yielded ops tmps j == some wv) = b
        rw [hy]
        revert hr hw
        generalize get (po t) e = G
        intro hr hw
        cases G with
        | bool c =>
          rw [Rep.bool_inv hr]
          cases hw
          rw [eqB_eq]
          show (some c == some wv) = (wv == c)
          cases c <;> cases wv <;> rfl
        | tup l =>
          cases l with
          | nil =>
            cases hw
            cases hv : tmps.getD t undef with
            | tuple vs => rfl
            | _ => rw [hv] at hr; cases hr
          | cons x y => cases hw
        | _ => cases hw
      · cases hg
    · cases hg

theorem reg_ok {X : RunF} (hX : CodeOk P X) (hXb : XB P X) (hSo : SoloOk K P X) {ops : Array Oper} {x : Ex} {e' : Tr} {n' : Nat} {h' : Hps} {Q : Exit → Act → World → Prop} :
    ∀ (l : List Oper) (s : Nat) {β : Nat → Bk} {n : Nat} {h : Hps} {e : Tr} {a : Act} {w : World},(∀ i,i < l.length → ops[s + i]? = l[i]?) → St P s0 ro m Fb β n h e a w → runOps (callX (cFk K P) X) (l.map (cOper P m ops)) e n h = .ok x e' n' h' →
      (∀ β' a' w',St P s0 ro m Fb β' n' h' e' a' w' → Adv β (Lt n) h w β' (Lt n') h' w' → Q (exOf x) a' w') → wpOpsIn (FR ro) 0 P ops Q (List.range' s l.length) a w := by
  intro l
  induction l with
  | nil =>
    intro s β n h e a w _ S hd hQ
    cases hd
    exact hQ _ _ _ S (Adv.refl _ _ _ _)
  | cons o l ih =>
    intro s β n h e a w hi S hd hQ
    have ho : ops[s]? = some o := by simpa using hi 0 (by simp)
    have hi' : ∀ i,i < l.length → ops[s + 1 + i]? = l[i]? := fun i hi2 => by
      have := hi (i + 1) (by simp; omega)
      rw [show s + 1 + i = s + (i + 1) by omega]
      simpa using this
    have hd1 : stepO (callX (cFk K P) X) (runOps (callX (cFk K P) X) (l.map (cOper P m ops))) e n h (cOper P m ops o) = .ok x e' n' h' := hd
    show wpOpsIn (FR ro) 0 P ops Q (s :: List.range' (s + 1) l.length) a w
    unfold wpOpsIn
    simp only [ho]
    unfold cOper at hd1
    split at hd1
    · rename_i dp g hdp hg
      have hd2 : stepW (callX (cFk K P) X) (runOps (callX (cFk K P) X) (l.map (cOper P m ops))) e n h dp (cOp P m o) (want e g) = .ok x e' n' h' := hd1
      cases hw : want e g with
      | bad => rw [hw] at hd2; cases hd2
      | ok b =>
        rw [hw] at hd2
        have hwant := want_ok (ops := ops) S.env S.sz hg hw
        rw [hwant]
        cases b with
        | false =>
          simp only [Bool.false_eq_true,if_false]
          replace hd2 : runOps (callX (cFk K P) X) (l.map (cOper P m ops)) (putE e dp (.tup [])) (n + 1) h = .ok x e' n' h' := hd2
          refine ⟨fun _ _ => trivial,?_⟩
          have Au := Adv.upL S.inv
          have Su := S.adv S.inv.upL Au
          have hu : Rep w (Mk β Fb h) β (Lt (n + 1)) undef (.tup []) := .tup #[] [] rfl (fun i hi => absurd hi (Nat.not_lt_zero _))
          exact ih (s + 1) hi' (Su.put S.m_lt hdp hu) hd2 (fun β' a' w' S' A' => hQ β' a' w' S' (Au.trans A'))
        | true =>
          simp only [if_true]
          cases hop : opC (callX (cFk K P) X) e n h (cOp P m o) with
          | bad =>
            replace hd2 : afterOp (runOps (callX (cFk K P) X) (l.map (cOper P m ops))) e dp (opC (callX (cFk K P) X) e n h (cOp P m o)) = .ok x e' n' h' := hd2
            rw [hop] at hd2
            cases hd2
          | ok d n1 h1 =>
            replace hd2 : afterOp (runOps (callX (cFk K P) X) (l.map (cOper P m ops))) e dp (opC (callX (cFk K P) X) e n h (cOp P m o)) = .ok x e' n' h' := hd2
            rw [hop] at hd2
            replace hd2 : runOps (callX (cFk K P) X) (l.map (cOper P m ops)) (putE e dp d) (n1 + 1) h1 = .ok x e' n' h' := hd2
            refine op_ok hX hXb hSo S hop (fun v β' w' g1 g2 g3 => ?_)
            exact ih (s + 1) hi' ((S.adv g2 g3).put S.m_lt hdp g1) hd2 (fun β2 a2 w2 S2 A2 => hQ β2 a2 w2 S2 (g3.trans A2))
    · cases hd1
end
end Go.Proofs.YtpbpmpabndgeeaaDoor

/- All code: what its run over data comes to is what it comes to in the model. No condition. -/
namespace Go.Proofs.YtpbpmpabndgeeaaDoor
open Go

section
variable {P : Program} {K : Nat → Bool}

def DrawOk (P : Program) (X : RunF) : Prop :=
  ∀ {id : Nat} {ops : Array Oper} {s0 : Nat} {ro : Option Nat} {m : Nat} {Fb : Nat → Prop} {β : Nat → Bk} {n : Nat} {h : Hps} {e : Tr} {a : Act} {w : World} {x : Ex} {e' : Tr} {n' : Nat} {h' : Hps} {Q : Exit → Act → World → Prop} {sd : Nat},0 < sd →
    St P s0 ro m Fb β n h e a w → drawOk (Region.before ops) ops (ops.toList.map (cOper P m ops)) = true → runDraw sd (callX (cFk K P) X) (ops.toList.map (cOper P m ops)) (cUn P m ops) (cBar P m ops) [] e n h = .ok x e' n' h' →
    (∀ β' a' w',St P s0 ro m Fb β' n' h' e' a' w' → Adv β (Lt n) h w β' (Lt n') h' w' → Q (exOf x) a' w') → (Code.region id ops true).wpIn (FR ro) 0 P Q a w

theorem seqR_inv {X : RunF} {b : DCode} {r : Re} {x : Ex} {e' : Tr} {n' : Nat} {h' : Hps} (hd : seqR X b r = .ok x e' n' h') :
    ∃ x1 e1 n1 h1,r = .ok x1 e1 n1 h1 ∧ ((x1 = .normal ∧ X b e1 n1 h1 = .ok x e' n' h') ∨ (x1 ≠ .normal ∧ x1 = x ∧ e1 = e' ∧ n1 = n' ∧ h1 = h')) := by
  cases r with
  | bad => cases hd
  | ok x1 e1 n1 h1 =>
    refine ⟨x1,e1,n1,h1,rfl,?_⟩
    cases x1 with
    | normal => exact .inl ⟨rfl,hd⟩
    | exit i => cases hd; exact .inr ⟨(fun h => by cases h),rfl,rfl,rfl,rfl⟩
    | ret => cases hd; exact .inr ⟨(fun h => by cases h),rfl,rfl,rfl,rfl⟩

theorem stepR_scope {b : Frame} {a : Act} {k : List Item} {cs : List Frame} {w : World} {c : Code} : Go.step P (lone (b.atR a (.code (.scope c) :: k)) cs w) = .next (lone (b.atR a (.code c :: .inScope c :: k)) cs w) :=
  step_lone_go (by simp [stepG,stepG.exec,Frame.atR])
theorem stepR_inScope {b : Frame} {a : Act} {k : List Item} {cs : List Frame} {w : World} {c : Code} : Go.step P (lone (b.atR a (.inScope c :: k)) cs w) = .next (lone (b.atR a k) cs w) :=
  step_lone_go (by simp [stepG,stepG.exec,Frame.atR])
theorem wpIn_scope {F : Fence} {n : Nat} {Q : Exit → Act → World → Prop} {a : Act} {w : World} {c : Code} (h : c.wpIn F n P (Exit.noGoto Q) a w) : (Code.scope c).wpIn F n P Q a w := by
  intro b k cs hro hb hr
  have h0 : (lone (b.atR a (.code (.scope c) :: k)) cs w).fenced P F := fenced_calm hb hr rfl
  obtain ⟨e,a₁,w₁,hq,harr⟩ := h b (.inScope c :: k) cs hro hb hr
  cases e with
  | normal => exact ⟨.normal,a₁,w₁,hq,.head h0 stepR_scope (StepsIn.trans harr (.one (fenced_calm hb hr rfl) stepR_inScope))⟩
  | exit id' =>
    have hx : exitTo id' (.inScope c :: k) = exitTo id' k := by simp [exitTo]
    exact ⟨.exit id',a₁,w₁,hq,fun k' hk => .head h0 stepR_scope (harr.1 k' (by rw [hx]; exact hk)),
      fun hr' hk => let ⟨k₁,h1,h2⟩ := harr.2 hr' (by rw [hx]; exact hk); ⟨k₁,h1,.head h0 stepR_scope h2⟩⟩
  | goto l => exact hq.elim
  | ret => exact ⟨_,a₁,w₁,hq,.of_steps (.one h0 stepR_scope) harr⟩
  | panic ch => exact ⟨_,a₁,w₁,hq,.of_steps (.one h0 stepR_scope) harr⟩
  | outgrown => exact ⟨_,a₁,w₁,hq,.of_steps (.one h0 stepR_scope) harr⟩

section
variable {U : Us} {RC : Nat → Code → DCode → Prop} {s0 : Nat} {ro : Option Nat} {m : Nat} {Fb : Nat → Prop} {β : Nat → Bk} {n : Nat} {h : Hps} {e : Tr} {a : Act} {w : World}
theorem sameL_eq {ih : D → D → Bool} (hi : ∀ a b,ih a b = true → a = b) : ∀ {l m : List D},sameL ih l m = true → l = m
  | [],[],_ => rfl
  | [],_ :: _,h => by cases h
  | _ :: _,[],h => by cases h
  | a :: l,b :: m,h => by
    have h1 : Bool.rec (motive := fun _ => Bool) false (sameL ih l m) (ih a b) = true := h
    cases hb : ih a b with
    | false => rw [hb] at h1; cases h1
    | true => rw [hb] at h1; rw [hi a b hb,sameL_eq hi h1]
theorem eqB_true {a b : Bool} (h : eqB a b = true) : a = b := by cases a <;> cases b <;> first | rfl | cases h
theorem sameD_eq : ∀ (f : Nat) (a b : D),sameD f a b = true → a = b
  | 0,_,_,h => by cases h
  | f + 1,a,b,h => by
    have hL : ∀ {l m : List D},sameL (sameD f) l m = true → l = m := sameL_eq (sameD_eq f)
    replace h : sameD0 (sameD f) a b = true := h
    cases a with
    | junk => cases b <;> first | rfl | cases h
    | nilp => cases b <;> first | rfl | cases h
    | nilf => cases b <;> first | rfl | cases h
    | nili => cases b <;> first | rfl | cases h
    | nilm => cases b <;> first | rfl | cases h
    | nils => cases b <;> first | rfl | cases h
    | int k m =>
      cases b with
      | int k' m' =>
        obtain ⟨h1,h2⟩ := and2 h
        rw [eqI_eq] at h2
        rw [kc_inj h1,of_decide_eq_true h2]
      | _ => cases h
    | bool x => cases b with
      | bool y => rw [eqB_true h]
      | _ => cases h
    | str s => cases b with
      | str s' => replace h : eqN s s' = true := h; rw [eqN_eq] at h; rw [eq_of_beq h]
      | _ => cases h
    | ptr r i j => cases b with
      | ptr r' i' j' => obtain ⟨h1,h2,h3⟩ := and3 h; rw [beq_eq h1,beq_eq h2,beq_eq h3]
      | _ => cases h
    | ip e j => cases b with
      | ip e' j' => obtain ⟨h1,h2⟩ := and2 h; rw [beq_eq h1,sameD_eq f _ _ h2]
      | _ => cases h
    | sl k es sp fl => cases b with
      | sl k' es' sp' fl' =>
        obtain ⟨h1,h2,h3⟩ := and3 h
        obtain ⟨h3,h4⟩ := and2 h3
        rw [beq_eq h1,eqB_true h2,hL h3,hL h4]
      | _ => cases h
    | ms k r o l fl => cases b with
      | ms k' r' o' l' fl' =>
        obtain ⟨h1,h2,h3⟩ := and3 h
        obtain ⟨h3,h4,h5⟩ := and3 h3
        rw [beq_eq h1,beq_eq h2,beq_eq h3,beq_eq h4,eqB_true h5]
      | _ => cases h
    | mp r => cases b with
      | mp r' => rw [beq_eq h]
      | _ => cases h
    | yld r => cases b with
      | yld r' => rw [beq_eq h]
      | _ => cases h
    | fn g x c => cases b with
      | fn g' x' c' => obtain ⟨h1,h2,h3⟩ := and3 h; rw [beq_eq h1,hL h2,hL h3]
      | _ => cases h
    | iface t d => cases b with
      | iface t' d' => obtain ⟨h1,h2⟩ := and2 h; rw [beq_eq h1,sameD_eq f _ _ h2]
      | _ => cases h
    | agg cs => cases b with
      | agg cs' => rw [hL h]
      | _ => cases h
    | tup cs => cases b with
      | tup cs' => rw [hL h]
      | _ => cases h
theorem sameT_get {p : Po} : ∀ {us : List Po} {a b : Tr},sameT us a b = true → p ∈ us → get p a = get p b
  | q :: us,a,b,h,hp => by
    obtain ⟨h1,h2⟩ := and2 (show Bool.and (sameD 100 (get q a) (get q b)) (sameT us a b) = true from h)
    rcases List.mem_cons.1 hp with rfl | hp
    · exact sameD_eq _ _ _ h1
    · exact sameT_get h2 hp
theorem sameM_eq : ∀ {a b : List (D × D)},sameM a b = true → a = b
  | [],[],_ => rfl
  | [],_ :: _,h => by cases h
  | _ :: _,[],h => by cases h
  | p :: a,q :: b,h => by
    obtain ⟨h1,h2,h3⟩ := and3 (show Bool.and (sameD 100 p.1 q.1) (Bool.and (sameD 100 p.2 q.2) (sameM a b)) = true from h)
    rw [sameM_eq h3,Prod.ext (sameD_eq _ _ _ h1) (sameD_eq _ _ _ h2)]
theorem sameO_eq {a b : Ob} (h : sameO a b = true) : a = b := by
  cases a with
  | none => cases b <;> first | rfl | cases h
  | row k es => cases b with
    | row k' es' => obtain ⟨h1,h2⟩ := and2 h; rw [beq_eq h1,sameL_eq (sameD_eq 100) h2]
    | _ => cases h
  | map es => cases b with
    | map es' => rw [sameM_eq h]
    | _ => cases h
  | mit q => cases b with
    | mit q' => rw [beq_eq h]
    | _ => cases h
  | tob => cases h
  | byt => cases h
  | loop => cases h
theorem sameH_eq : ∀ {a b : Hps},sameH a b = true → a = b
  | [],[],_ => rfl
  | [],_ :: _,h => by cases h
  | _ :: _,[],h => by cases h
  | p :: a,q :: b,h => by
    obtain ⟨h1,h2,h3⟩ := and3 (show Bool.and (Nat.beq p.1 q.1) (Bool.and (sameO p.2 q.2) (sameH a b)) = true from h)
    rw [sameH_eq h3,Prod.ext (beq_eq h1) (sameO_eq h2)]
theorem get_lf : ∀ (p : Po),get p .lf = .junk
  | .h => rfl
  | .o p => get_lf p
  | .i p => get_lf p
theorem not_true {b : Bool} (h : Bool.not b = true) : b = false := by cases b <;> first | rfl | cases h
theorem lowT_get {n : Nat} {p : Po} : ∀ {us : List Po} {t : Tr},lowT us n t = true → p ∈ us → hasR n 20 (get p t) = false
  | q :: us,t,h,hp => by
    obtain ⟨h1,h2⟩ := and2 (show Bool.and (Bool.not (hasR n 20 (get q t))) (lowT us n t) = true from h)
    rcases List.mem_cons.1 hp with rfl | hp
    · exact not_true h1
    · exact lowT_get h2 hp
theorem dropFrom_idem (n : Nat) : ∀ h,dropFrom n (dropFrom n h) = dropFrom n h
  | [] => rfl
  | p :: h => by
    show dropFrom n (Bool.rec (motive := fun _ => Hps) (dropFrom n h) (p :: dropFrom n h) (Nat.blt p.1 n)) = Bool.rec (motive := fun _ => Hps) (dropFrom n h) (p :: dropFrom n h) (Nat.blt p.1 n)
    cases hb : Nat.blt p.1 n with
    | false => exact dropFrom_idem n h
    | true =>
      show Bool.rec (motive := fun _ => Hps) (dropFrom n (dropFrom n h)) (p :: dropFrom n (dropFrom n h)) (Nat.blt p.1 n) = p :: dropFrom n h
      rw [hb,dropFrom_idem n h]
theorem only_out {p : Po} : ∀ {us : List Po} {e : Tr},p ∉ us → get p (onlyT us e) = .junk
  | [],_,_ => get_lf p
  | q :: us,e,h => by
    show get p (putT q (get q e) (onlyT us e)) = .junk
    have hne : p ≠ q := fun e1 => by rw [e1] at h; exact h List.mem_cons_self
    rw [get_put_ne _ _ _ _ hne]
    exact only_out (fun h1 => h (List.mem_cons_of_mem _ h1))
theorem only_in {p : Po} : ∀ {us : List Po} {e : Tr},p ∈ us → get p (onlyT us e) = get p e
  | q :: us,e,h => by
    show get p (putT q (get q e) (onlyT us e)) = _
    by_cases e1 : p = q
    · rw [e1,get_put_same]
    · rw [get_put_ne _ _ _ _ e1]
      exact only_in ((List.mem_cons.1 h).resolve_left e1)
theorem EnvOk.only {M : Nat → Prop} {U : Us} {tmps : Array Value} {us : List Po} {e : Tr} (E : EnvOk w M β U tmps e) : EnvOk w M β U tmps (onlyT us e) := by
  refine ⟨E.1,fun t ht => ?_⟩
  by_cases h : po t ∈ us
  · rw [only_in h]; exact E.2 t ht
  · rw [only_out h]; exact .junk
theorem EnvOk.again {M : Nat → Prop} {U : Us} {tmps : Array Value} {us : List Po} {e e2 : Tr} (E : EnvOk w M β U tmps e2) {n : Nat} (hs : sameT us (onlyT us e) e2 = true) (hl : lowT us n (onlyT us e) = true) : EnvOk w M β (Lt n) tmps (onlyT us e) := by
  refine ⟨E.1,fun t ht => ?_⟩
  by_cases h : po t ∈ us
  · have h1 := E.2 t ht
    rw [← sameT_get hs h] at h1
    exact Rep.lows 20 h1 (lowT_get hl h)
  · rw [only_out h]; exact .junk

theorem run_next_own {ty : TypeId} {r bm since last clock : Nat} {seen : Array Nat} {ents : Array MapEntry} (hr : w.heap[r]? = some (.mapIter (some bm) since seen last)) (hb : w.heap[bm]? = some (.map ents clock))
    (hst : ∀ x,x ∈ ents.toList → x.born < clock) (hl : seen = #[] ∨ last = clock) :
    ∃ w1 : World,(w1 = w ∨ w1 = w.drew) ∧ ((Instr.next (.pointer (some ⟨r,0,none⟩)) false ty).run P w = .ok (.tuple #[.bool false]) w1 ∨
      ∃ x,x ∈ (leftOf ents seen).toList ∧ (Instr.next (.pointer (some ⟨r,0,none⟩)) false ty).run P w = .ok (.tuple #[.bool true,x.key,x.val]) (ChangeMaps.setBlock w1 r (.mapIter (some bm) since (seen.push x.born) clock))) := by
  have htest : (!seen.isEmpty && !ents.isEmpty && ents.all (fun x => decide (x.born ≥ last))) = false := by
    rcases hl with rfl | rfl
    · rfl
    · cases he : ents.isEmpty with
      | true => simp
      | false =>
        have hall : ents.all (fun x => decide (x.born ≥ last)) = false := by
          rw [Bool.eq_false_iff]
          intro h
          rw [Array.all_eq_true_iff_forall_mem] at h
          have h0 : 0 < ents.size := by
            rcases Nat.eq_zero_or_pos ents.size with h0 | h0
            · simp [Array.isEmpty,h0] at he
            · exact h0
          have h1 := h _ (Array.getElem_mem h0)
          have h2 := hst ents[0] (by simp)
          simp at h1
          omega
        simp [hall]
  simp only [Instr.next,getObj,Sem.run_bind,Sem.run,hr,hb,Result.andThen,htest,Bool.false_eq_true,if_false]
  have hmem : ∀ x,x ∈ (ents.filter fun e => !seen.contains e.born) → x ∈ (leftOf ents seen).toList := fun x hx => Array.mem_toList_iff.2 hx
  generalize ents.filter (fun e => !seen.contains e.born) = L at hmem ⊢
  have hch : ∀ k,0 < k → ∃ (j : Nat) (w1 : World),j < k ∧ (w1 = w ∨ w1 = w.drew) ∧ (choose (Question.mapNext k)).run P w = .ok j w1 := by
    intro k hk
    by_cases hf : k ≤ 1
    · exact ⟨0,w,hk,.inl rfl,by simp [choose,Sem.run,Question.forced,hf]⟩
    · exact ⟨_,w.drew,Nat.mod_lt _ hk,.inr rfl,by
        simp only [choose,Sem.run,Question.forced,decide_eq_true_eq,hf,if_false,Question.cut]
        rfl⟩
  have hpos : 0 < ((if (L.filter fun x => decide (x.born < since)).isEmpty then #[none] else #[]) ++ ((L.filter fun x => decide (x.born < since)) ++ L.filter fun x => decide (x.born ≥ since)).map some : Array (Option MapEntry)).size := by
    split
    · simp only [Array.size_append,Array.size_map,List.size_toArray,List.length_cons,List.length_nil]
      omega
    · rename_i hne
      have : 0 < (L.filter fun x => decide (x.born < since)).size := by
        rcases Nat.eq_zero_or_pos (L.filter fun x => decide (x.born < since)).size with h0 | h0
        · exact absurd (by simp [Array.isEmpty,h0]) hne
        · exact h0
      simp only [Array.size_append,Array.size_map]
      omega
  have hin : ∀ x : MapEntry,some x ∈ ((if (L.filter fun x => decide (x.born < since)).isEmpty then #[none] else #[]) ++ ((L.filter fun x => decide (x.born < since)) ++ L.filter fun x => decide (x.born ≥ since)).map some : Array (Option MapEntry)) → x ∈ L := by
    intro x hx
    rcases Array.mem_append.1 hx with hx | hx
    · split at hx <;> simp at hx
    · obtain ⟨y,hy,e⟩ := Array.mem_map.1 hx
      cases e
      rcases Array.mem_append.1 hy with hy | hy
      · exact (Array.mem_filter.1 hy).1
      · exact (Array.mem_filter.1 hy).1
  generalize ((if (L.filter fun x => decide (x.born < since)).isEmpty then #[none] else #[]) ++ ((L.filter fun x => decide (x.born < since)) ++ L.filter fun x => decide (x.born ≥ since)).map some : Array (Option MapEntry)) = Cs at hpos hin ⊢
  obtain ⟨j,w1,hj,hal,hrun⟩ := hch Cs.size hpos
  refine ⟨w1,hal,?_⟩
  have hr1 : w1.heap[r]? = some (.mapIter (some bm) since seen last) := by rcases hal with rfl | rfl <;> exact hr
  cases hc : Cs[j] with
  | none => left; simp only [hrun,Array.getElem?_eq_getElem hj,hc]; rfl
  | some x =>
    right
    refine ⟨x,hmem x (hin x (hc ▸ Array.getElem_mem hj)),?_⟩
    simp only [hrun,Array.getElem?_eq_getElem hj,hc,Sem.run_bind,run_setObj_at hr1,Result.andThen]
    rfl
theorem run_entry_own {r bm since clock b : Nat} {seen : Array Nat} {ents : Array MapEntry} (hr : w.heap[r]? = some (.mapIter (some bm) since (seen.push b) clock)) (hb : w.heap[bm]? = some (.map ents clock)) (he : ∃ x,x ∈ ents.toList ∧ x.born = b) :
    ∃ i,i < ents.size ∧ (Instr.entry (.pointer (some ⟨r,0,none⟩))).run P w = .ok (.tuple #[(ents.getD i default).key,(ents.getD i default).val]) w := by
  have hf : ∃ y,ents.find? (·.born == b) = some y := by
    cases hf : ents.find? (·.born == b) with
    | some y => exact ⟨y,rfl⟩
    | none =>
      obtain ⟨x,hx,e⟩ := he
      have := Array.find?_eq_none.1 hf x (Array.mem_toList_iff.1 hx)
      exact absurd (by simp [e]) this
  obtain ⟨y,hf⟩ := hf
  obtain ⟨i,hi,e⟩ := Array.mem_iff_getElem.1 (Array.mem_of_find?_eq_some hf)
  refine ⟨i,hi,?_⟩
  have hg : ents.getD i default = y := by simp [Array.getD,hi,e]
  simp only [Instr.entry,getObj,Sem.run_bind,Sem.run,hr,hb,Result.andThen,Array.back?_push,bne_self_eq_false,Bool.false_eq_true,if_false,hf,hg]
  rfl

theorem rngmL_inv {F : Nat → DFn} {X : RunF} {asg : List DOper} {nxt : Nat} {body : DCode} {pr : Po} {ws : List Po} {e0 : Tr} {h2 : Hps} {fin : Re} {x : Ex} {e' : Tr} {n' : Nat} {h' : Hps} : ∀ {es : List (D × D)},
    rngmL F X asg nxt body pr ws e0 n h2 fin es = .ok x e' n' h' → fin = .ok x e' n' h' ∧ ∀ i,i < es.length → ∃ e2 n2,rngm1 F X asg nxt body pr e0 n h2 (es.getD i (.junk,.junk)) = .ok .normal e2 n2 h2 ∧ sameT ws e0 e2 = true
  | [],hd => ⟨hd,fun i hi => absurd hi (Nat.not_lt_zero _)⟩
  | p :: es,hd => by
    have hd1 : rngmC ws e0 h2 (rngmL F X asg nxt body pr ws e0 n h2 fin es) (rngm1 F X asg nxt body pr e0 n h2 p) = .ok x e' n' h' := hd
    cases hr : rngm1 F X asg nxt body pr e0 n h2 p with
    | bad => rw [hr] at hd1; cases hd1
    | ok x2 e2 n2 h3 =>
      rw [hr] at hd1
      cases x2 with
      | normal =>
        replace hd1 : Bool.rec (motive := fun _ => Re) .bad (rngmL F X asg nxt body pr ws e0 n h2 fin es) (Bool.and (sameT ws e0 e2) (sameH h2 h3)) = .ok x e' n' h' := hd1
        cases hb : Bool.and (sameT ws e0 e2) (sameH h2 h3) with
        | false => rw [hb] at hd1; cases hd1
        | true =>
          rw [hb] at hd1
          obtain ⟨g1,g2⟩ := and2 hb
          obtain ⟨k1,k2⟩ := rngmL_inv hd1
          refine ⟨k1,fun i hi => ?_⟩
          cases i with
          | zero => exact ⟨e2,n2,by rw [sameH_eq g2] at hr ⊢; exact hr,g1⟩
          | succ i => simpa using k2 i (by simpa using hi)
      | exit i => cases hd1
      | ret => cases hd1

theorem St.iter (S : St P s0 ro m Fb β n h e a w) {br : Nat} {it it' : Obj} (hFb : Fb br) (hbr : w.heap[br]? = some it) (hit : (∀ c T fr,it ≠ .cells c T fr) ∧ (∀ d,it ≠ .deferred d) ∧ ∀ L,it ≠ .loop L) {w1 : World} (hw : w1 = w ∨ w1 = w.drew) :
    St P s0 ro m Fb β n h e a (ChangeMaps.setBlock w1 br it') := by
  have hh : (ChangeMaps.setBlock w1 br it').heap = w.heap.setIfInBounds br it' := by rcases hw with rfl | rfl <;> rfl
  have hne : ∀ b,b ≠ br → (ChangeMaps.setBlock w1 br it').heap[b]? = w.heap[b]? := fun b hb => by rw [hh]; exact set_ne hb
  have hsz : (ChangeMaps.setBlock w1 br it').heap.size = w.heap.size := by rw [hh]; simp
  have hcl : ∀ (b : Nat) c T fr,w.heap[b]? = some (Obj.cells c T fr) → ¬ Mk β Fb h b → (ChangeMaps.setBlock w1 br it').heap[b]? = w.heap[b]? := fun b c T fr hb hm => hne b (fun e1 => hm (.inl (e1 ▸ hFb)))
  have hnt := (S.inv.frm br hFb).2
  refine ⟨S.inv.gen (Nat.le_of_eq hsz.symm) hcl (fun r hr => hne _ (fun e1 => hnt ⟨r,hr,e1⟩)),S.env.gen (Nat.le_of_eq hsz.symm) hcl,S.sz,?_,?_,by rw [hsz]; exact S.s0⟩
  · obtain ⟨rs,d1,d2,d3⟩ := S.dfr
    refine ⟨rs,d1,d2,fun r hr => ⟨(d3 r hr).1,?_,(d3 r hr).2.2⟩⟩
    rw [hne r (fun e1 => by have := (d3 r hr).2.1; rw [e1,hbr] at this; exact hit.2.1 _ (Option.some.inj this))]
    exact (d3 r hr).2.1
  · intro l hl
    obtain ⟨L,h1,h2⟩ := S.rnd l hl
    exact ⟨L,by rw [hne l (fun e1 => by rw [e1,hbr] at h1; exact hit.2.2 _ (Option.some.inj h1))]; exact h1,h2⟩
theorem setBlock_self {w : World} {r : Nat} {o : Obj} (h : w.heap[r]? = some o) : ChangeMaps.setBlock w r o = w := by
  have hlt := lt_of_some h
  have hg : w.heap[r] = o := by rw [Array.getElem?_eq_getElem hlt] at h; exact Option.some.inj h
  have : w.heap.setIfInBounds r o = w.heap := by
    apply Array.ext
    · simp
    · intro i h1 h2
      rw [Array.getElem_setIfInBounds]
      split
      · rename_i e; subst e; exact hg.symm
      · rfl
  show ({ w with heap := w.heap.setIfInBounds r o } : World) = w
  rw [this]

theorem mLoop_inv {c : Code} {l : MLoop} (hl : mLoop m c = some l) : ∃ id1 id2 t1 t2 t3 p1 p2 p3 f1 f2 f3 rest,c = .seq (.region id1 #[⟨some l.nx,.next (.tmp l.it) false,t1,p1,f1,none⟩,⟨some l.mo,.extract (.tmp l.nx) 0,t2,p2,f2,none⟩] false)
      (.seq (.cond (.tmp l.mo) .skip (.exit l.out)) (.block l.nxt (.seq (.region id2 l.aops false) l.body))) ∧ l.aops.toList = ⟨some l.pr,.entry (.tmp l.it),t3,p3,f3,none⟩ :: rest ∧ l.it < m ∧ l.nx < m ∧ l.mo < m ∧ l.nx ≠ l.it ∧ l.mo ≠ l.it ∧ l.pr < m := by
  unfold mLoop at hl
  split at hl
  · rename_i id1 sops mo out nxt id2 aops body
    split at hl
    · rename_i s a' hs ha
      split at hl
      · rename_i hc
        cases hl
        unfold mStep at hs
        split at hs
        · rename_i nx it t1 p1 f1 mo2 x t2 p2 f2 hsl
          split at hs
          · rename_i hc2
            cases hs
            unfold mAsg at ha
            split at ha
            · rename_i pr it2 t3 p3 f3 rest hal
              split at ha
              · rename_i hc3
                cases ha
                obtain ⟨c1,c2,c3,c4,c5,c6⟩ := hc2
                obtain ⟨c7,c8⟩ := hc
                simp only at c7 c8
                subst c1 c7 c8
                refine ⟨id1,id2,t1,t2,t3,p1,p2,p3,f1,f2,f3,rest,?_,hal,c2,c3,c4,c5,c6,hc3⟩
                have : sops = #[⟨some x,.next (.tmp it2) false,t1,p1,f1,none⟩,⟨some mo,.extract (.tmp x) 0,t2,p2,f2,none⟩] := Array.ext' hsl
                rw [this]
              · cases ha
            · cases ha
          · cases hs
        · cases hs
      · cases hl
    · cases hl
  · cases hl

theorem Inv.unhold {br : Nat} (I : Inv RC β U (Hold Fb br) h w) : Inv RC β U Fb h w :=
  ⟨I.key,I.lt,fun r => ObOk.gen (Nat.le_refl _) (fun _ _ _ _ _ _ => rfl) (fun b hb => hb.elim (fun h => .inl (.inl h)) .inr) rfl (I.obj r),I.inj,fun b hb => I.frm b (.inl hb)⟩
theorem EnvOk.less {M M' : Nat → Prop} {tmps : Array Value} (hM : ∀ b,M' b → M b) (E : EnvOk w M β U tmps e) : EnvOk w M' β U tmps e :=
  ⟨E.1,fun t ht => (E.2 t ht).mono (Nat.le_refl _) (fun _ _ _ => rfl) (fun b _ hb => hM b hb) _ (Sub.refl _) (fun _ _ => rfl)⟩
def EntsOk (w : World) (M : Nat → Prop) (β : Nat → Bk) (U : Us) (ents : Array MapEntry) (es : List (D × D)) : Prop :=
  ∀ i,i < es.length → Rep w M β U (ents.getD i default).key (es.getD i (.junk,.junk)).1 ∧ Rep w M β U (ents.getD i default).val (es.getD i (.junk,.junk)).2

theorem EnvOk.putJ {M : Nat → Prop} {tmps : Array Value} (E : EnvOk w M β U tmps e) {t : Nat} (v : Value) (hj : get (po t) e = .junk) : EnvOk w M β U (tmps.setIfInBounds t v) e := by
  refine ⟨by simpa using E.1,fun s hs => ?_⟩
  simp only [Array.size_setIfInBounds] at hs
  by_cases e1 : s = t
  · rw [e1,hj]; exact .junk
  · have : (tmps.setIfInBounds t v).getD s undef = tmps.getD s undef := by
      rw [Array.getD_eq_getD_getElem?,Array.getD_eq_getD_getElem?,Array.getElem?_setIfInBounds_ne (fun h => e1 h.symm)]
    rw [this]
    exact E.2 s hs
theorem St.putJ (S : St P s0 ro m Fb β n h e a w) {t : Nat} (v : Value) (hj : get (po t) e = .junk) : St P s0 ro m Fb β n h e (a.put (some t) v) w :=
  ⟨S.inv,S.env.putJ v hj,by show m ≤ (a.tmps.setIfInBounds t v).size; simpa using S.sz,S.dfr,S.rnd,S.s0⟩
theorem eval_put {t : Nat} (v : Value) (ht : t < a.tmps.size) : (a.put (some t) v).eval (.tmp t) = v := by
  show (a.tmps.setIfInBounds t v).getD t undef = v
  simp [Array.getD,ht]
theorem mstep_ok {t1 t2 p1 p2 f1 f2 it nx mo : _} {v : Value} {vs : Array Value} {b : Bool} {w2 : World} {Q : Exit → Act → World → Prop} (hrun : (Instr.next (a.eval (.tmp it)) false t1).run P w = .ok v w2) (hv : v = .tuple vs) (hb : vs[0]? = some (.bool b))
    (S : St P s0 ro m Fb β n h e a w2) (hnx : nx < m) (hmo : mo < m) (hjx : get (po nx) e = .junk) (hjm : get (po mo) e = .junk) (hQ : ∀ a2,St P s0 ro m Fb β n h e a2 w2 → a2.eval (.tmp mo) = .bool b → Q .normal a2 w2) :
    wpOpsIn (FR ro) 0 P #[⟨some nx,.next (.tmp it) false,t1,p1,f1,none⟩,⟨some mo,.extract (.tmp nx) 0,t2,p2,f2,none⟩] Q [0,1] a w := by
  unfold wpOpsIn
  simp only [List.getElem?_toArray,List.getElem?_cons_zero,Region.wanted,if_true]
  refine ⟨fun _ _ => trivial,?_⟩
  rw [Oper.semAt_eq _ _ _ (fun c h => by cases h)]
  show Oper.uponIn _ _ _ _ _ _ _ ((do pure (.value (← Instr.next (a.eval (.tmp it)) false t1)) : Sem Next).run P w)
  rw [run_v hrun]
  show wpOpsIn (FR ro) 0 P #[⟨some nx,.next (.tmp it) false,t1,p1,f1,none⟩,⟨some mo,.extract (.tmp nx) 0,t2,p2,f2,none⟩] Q [1] (a.put (some nx) v) w2
  unfold wpOpsIn
  simp only [List.getElem?_toArray,List.getElem?_cons_succ,List.getElem?_cons_zero,Region.wanted,if_true]
  refine ⟨fun _ _ => trivial,?_⟩
  rw [Oper.semAt_eq _ _ _ (fun c h => by cases h)]
  show Oper.uponIn _ _ _ _ _ _ _ ((do pure (.value (← Instr.extract ((a.put (some nx) v).eval (.tmp nx)) 0)) : Sem Next).run P w2)
  rw [eval_put v (Nat.lt_of_lt_of_le hnx S.sz)]
  have hex : (Instr.extract v 0).run P w2 = .ok (.bool b) w2 := by rw [hv]; simp [Instr.extract,hb]
  rw [run_v hex]
  have S2 := S.putJ v hjx
  exact hQ _ (S2.putJ (.bool b) hjm) (eval_put _ (Nat.lt_of_lt_of_le hmo S2.sz))

theorem mLoop_lt {c : Code} {l : MLoop} (hl : mLoop m c = some l) : l.nx < m ∧ l.mo < m := by
  obtain ⟨_,_,_,_,_,_,_,_,_,_,_,_,_,_,_,h1,h2,_⟩ := mLoop_inv hl
  exact ⟨h1,h2⟩
theorem rest_out {x y : Nat} {ws : List Nat} (hl : x < m ∧ y < m) (hm : m < 2 ^ 20) : po x ∉ restC m (x :: y :: ws) ∧ po y ∉ restC m (x :: y :: ws) := by
  have h : ∀ z,z < m → z ∈ x :: y :: ws → po z ∉ restC m (x :: y :: ws) := by
    intro z hz hin hm2
    unfold restC at hm2
    obtain ⟨t,ht,e⟩ := List.mem_map.1 hm2
    obtain ⟨ht1,ht2⟩ := List.mem_filter.1 ht
    have := po_inj (Nat.lt_trans (List.mem_range.1 ht1) hm) (Nat.lt_trans hz hm) e
    subst this
    simp [hin] at ht2
  exact ⟨h x hl.1 List.mem_cons_self,h y hl.2 (List.mem_cons_of_mem _ List.mem_cons_self)⟩
theorem rngm_ok {X : RunF} (hX : CodeOk P X) (hXb : XB P X) (hSo : SoloOk K P X) {c : Code} {l : MLoop} (hl : mLoop m c = some l) (S : St P s0 ro m Fb β n h e a w) {ws : List Po} (hws : po l.nx ∉ ws ∧ po l.mo ∉ ws) {x : Ex} {e' : Tr} {n' : Nat} {h' : Hps} {Q : Exit → Act → World → Prop}
    (hd : rngmF (cFk K P) X ((l.aops.toList.drop 1).map (cOper P m l.aops)) l.out l.nxt (cCode P m l.body) (po l.pr) ws (onlyT ws e) n h (get (po l.it) (onlyT ws e)) = .ok x e' n' h')
    (hQ : ∀ β' a' w',St P s0 ro m Fb β' n' h' e' a' w' → Adv β (Lt n) h w β' (Lt n') h' w' → Q (exOf x) a' w') : (Code.loop c).wpIn (FR ro) 0 P Q a w := by
  obtain ⟨id1,id2,t1,t2,t3,p1,p2,p3,f1,f2,f3,rest,hc,haops,hit,hnx,hmo,hne1,hne2,hpr⟩ := mLoop_inv hl
  have hm20 := S.m_lt
  obtain ⟨e0,he0⟩ : ∃ e0,onlyT ws e = e0 := ⟨_,rfl⟩
  rw [he0] at hd
  cases hg : get (po l.it) e0 with
  | ptr r i j =>
    rw [hg] at hd
    replace hd : Bool.rec (motive := fun _ => Re) .bad (rngmI (cFk K P) X ((l.aops.toList.drop 1).map (cOper P m l.aops)) l.out l.nxt (cCode P m l.body) (po l.pr) ws e0 n r h (getO h r)) (Bool.and (Nat.beq i 0) (Nat.beq j 0)) = .ok x e' n' h' := hd
    cases hij : Bool.and (Nat.beq i 0) (Nat.beq j 0) with
    | false => rw [hij] at hd; cases hd
    | true =>
    rw [hij] at hd
    obtain ⟨hi0,hj0⟩ := and2 hij
    rw [beq_eq hi0,beq_eq hj0] at hg
    replace hd : rngmI (cFk K P) X ((l.aops.toList.drop 1).map (cOper P m l.aops)) l.out l.nxt (cCode P m l.body) (po l.pr) ws e0 n r h (getO h r) = .ok x e' n' h' := hd
    cases hor : getO h r with
    | mit q =>
      rw [hor] at hd
      replace hd : rngmE (cFk K P) X ((l.aops.toList.drop 1).map (cOper P m l.aops)) l.out l.nxt (cCode P m l.body) (po l.pr) ws e0 n q (dropFrom n (delO (delO h r) q)) (getO (delO h r) q) = .ok x e' n' h' := hd
      cases hoq : getO (delO h r) q with
      | map es =>
        rw [hoq] at hd
        obtain ⟨h2,hh2⟩ : ∃ h2,dropFrom n (delO (delO h r) q) = h2 := ⟨_,rfl⟩
        rw [hh2] at hd
        replace hd : Bool.rec (motive := fun _ => Re) .bad (rngmL (cFk K P) X ((l.aops.toList.drop 1).map (cOper P m l.aops)) l.nxt (cCode P m l.body) (po l.pr) ws e0 n h2 (.ok (.exit l.out) e0 n ((q,.map es) :: h2)) es) (Bool.and (lowT ws n e0) (Bool.and (Bool.not (leak n h2)) (Bool.not (obR1 n (.map es))))) = .ok x e' n' h' := hd
        cases hck : Bool.and (lowT ws n e0) (Bool.and (Bool.not (leak n h2)) (Bool.not (obR1 n (.map es)))) with
        | false => rw [hck] at hd; cases hd
        | true =>
        rw [hck] at hd
        obtain ⟨hlow,hleak,hme⟩ := and3 hck
        replace hleak := not_true hleak
        have hms := map_lows (not_true hme)
        obtain ⟨hfin,hrun⟩ := rngmL_inv (show rngmL (cFk K P) X ((l.aops.toList.drop 1).map (cOper P m l.aops)) l.nxt (cCode P m l.body) (po l.pr) ws e0 n h2 (.ok (.exit l.out) e0 n ((q,.map es) :: h2)) es = .ok x e' n' h' from hd)
        have hpr' : getO h r ≠ .none := by rw [hor]; exact fun h => by cases h
        have hpq1 : getO (delO h r) q ≠ .none := by rw [hoq]; exact fun h => by cases h
        obtain ⟨hqr,hoq2⟩ := getO_del_none hpq1
        have hpq : getO h q ≠ .none := hoq2 ▸ hpq1
        have I0 := S.inv
        have I1 := I0.hold hpr'
        have I2 := I1.hold hpq1
        have hd2 : dropFrom n h2 = h2 := by rw [← hh2]; exact dropFrom_idem n _
        have hTk2 : ∀ b,Tk β h2 b → Tk β h b := fun b ht => Tk_del (Tk_del (Tk_dropFrom (hh2 ▸ ht)))
        have I3 : Inv (RCc P) β (Lt n) (Hold (Hold Fb (β r).b) (β q).b) h2 w := hh2 ▸ I2.dropFrom n
        have hMs : ∀ b,Mk β (Hold (Hold Fb (β r).b) (β q).b) h2 b → Mk β Fb h b := by
          rintro b ((hb | rfl) | ht)
          · rcases hb with hb | rfl
            · exact .inl hb
            · exact .inr ⟨r,hpr',rfl⟩
          · exact .inr ⟨q,hpq,rfl⟩
          · exact .inr (hTk2 b ht)
        have S3 : St P s0 ro m (Hold (Hold Fb (β r).b) (β q).b) β n h2 e0 a w := by
          refine ⟨I3,EnvOk.less hMs (he0 ▸ S.env.only),S.sz,?_,?_,S.s0⟩
          · obtain ⟨rs,d1,d2,d3⟩ := S.dfr
            exact ⟨rs,d1,d2,fun b hb => ⟨(d3 b hb).1,(d3 b hb).2.1,fun ht => (d3 b hb).2.2 (hTk2 b ht)⟩⟩
          · intro b hb
            obtain ⟨L,g1,g2⟩ := S.rnd b hb
            exact ⟨L,g1,fun ht => g2 (hTk2 b ht)⟩
        have A3 : Adv β (Lt n) h w β (Lt n) h2 w := ⟨rfl,rfl,rfl,Nat.le_refl _,Sub.refl _,fun _ _ => rfl,fun _ _ _ => rfl,fun b _ ht => hTk2 b ht⟩
        have hoo := I0.obj r
        rw [hor] at hoo
        obtain ⟨hqn,since,hiter⟩ := hoo
        have hom := I0.obj q
        rw [← hoq2,hoq] at hom
        obtain ⟨ents,clock,hmap,hst,hlen,hents⟩ := hom
        have hE3 : EntsOk w (Mk β (Hold (Hold Fb (β r).b) (β q).b) h2) β (Lt n) ents es := fun i hi =>
          ⟨(hents i hi).1.mono (Nat.le_refl _) (fun _ _ _ => rfl) (fun b _ hb => hMs b hb) _ (Sub.refl _) (fun _ _ => rfl),(hents i hi).2.mono (Nat.le_refl _) (fun _ _ _ => rfl) (fun b _ hb => hMs b hb) _ (Sub.refl _) (fun _ _ => rfl)⟩
        have hnfq : ¬ Hold Fb (β r).b (β q).b := by
          rintro (hb | hb)
          · exact (I0.frm _ hb).2 ⟨q,hpq,rfl⟩
          · exact hqr (I0.inj q r hpq hpr' hb)
        have hnfr : ¬ Fb (β r).b := fun hb => (I0.frm _ hb).2 ⟨r,hpr',rfl⟩
        have hbne : (β q).b ≠ (β r).b := fun hb => hqr (I0.inj q r hpq hpr' hb)
        have hrn : r < n := I0.key r hpr'
        obtain ⟨hx1,he1,hn1,hh1⟩ : x = .exit l.out ∧ e' = e0 ∧ n' = n ∧ h' = (q,.map es) :: h2 := by cases hfin; exact ⟨rfl,rfl,rfl,rfl⟩
        rw [hx1,he1,hn1,hh1] at hQ
        clear hfin hd
        have hjx : get (po l.nx) e0 = .junk := he0 ▸ only_out hws.1
        have hjm : get (po l.mo) e0 = .junk := he0 ▸ only_out hws.2
        have rounds : ∀ (k : Nat) {β1 : Nat → Bk} {a1 : Act} {w1 : World} {seen : Array Nat} {last : Nat},(leftOf ents seen).size < k → St P s0 ro m (Hold (Hold Fb (β r).b) (β q).b) β1 n h2 e0 a1 w1 → Adv β (Lt n) h w β1 (Lt n) h2 w1 →
            w1.heap[(β r).b]? = some (.mapIter (some (β q).b) since seen last) → w1.heap[(β q).b]? = some (.map ents clock) → (seen = #[] ∨ last = clock) → EntsOk w1 (Mk β1 (Hold (Hold Fb (β r).b) (β q).b) h2) β1 (Lt n) ents es → Code.roundsIn (FR ro) 0 P c Q k a1 w1 := by
          intro k
          induction k with
          | zero => intro β1 a1 w1 seen last hk; exact absurd hk (Nat.not_lt_zero _)
          | succ k ih =>
            intro β1 a1 w1 seen last hk S1 A1 hit1 hmp1 hsl hE1
            have hβr : (β1 r).b = (β r).b := by rw [A1.same r hrn]
            have hβq : (β1 q).b = (β q).b := by rw [A1.same q hqn]
            rw [roundsIn_succ]
            have hvit : a1.eval (.tmp l.it) = .pointer (some ⟨(β r).b,0,none⟩) := by
              have hv := ev_ok S1.env S1.sz (.tmp l.it)
              have hcO : cO m (.tmp l.it) = .s (po l.it) := if_pos hit
              rw [hcO] at hv
              replace hv : Rep w1 _ β1 (Lt n) (a1.eval (.tmp l.it)) (get (po l.it) e0) := hv
              rw [hg] at hv
              generalize a1.eval (.tmp l.it) = v at hv
              cases hv
              rw [hβr]
              simp
            have hbr2 : (Hold (Hold Fb (β r).b) (β q).b) (β r).b := .inl (.inr rfl)
            rw [hc]
            refine wpIn_seq (wpIn_region ?_)
            obtain ⟨wd,hwd,hnext⟩ := run_next_own (P := P) (ty := t1) hit1 hmp1 hst hsl
            have hwdh : wd.heap = w1.heap := by rcases hwd with rfl | rfl <;> rfl
            have hsb := setBlock_self (w := wd) (by rw [hwdh]; exact hit1)
            have hkind : ∀ sn lt,(∀ c T fr,Obj.mapIter (some (β q).b) since sn lt ≠ .cells c T fr) ∧ (∀ d,Obj.mapIter (some (β q).b) since sn lt ≠ .deferred d) ∧ ∀ L,Obj.mapIter (some (β q).b) since sn lt ≠ .loop L := fun _ _ => ⟨(fun _ _ _ h => by cases h),(fun _ h => by cases h),(fun _ h => by cases h)⟩
            rcases hnext with hover | ⟨x0,hx0,hmore⟩
            · -- it is over
              have S2 := S1.iter (it' := .mapIter (some (β q).b) since seen last) hbr2 hit1 (hkind _ _) hwd
              rw [hsb] at S2
              refine mstep_ok (by rw [hvit]; exact hover) rfl rfl S2 hnx hmo hjx hjm (fun a2 S3 hev => ?_)
              refine wpIn_seq (wpIn_cond hev ?_)
              refine wpIn_exit ?_
              have A2 : Adv β (Lt n) h w β1 (Lt n) ((q,.map es) :: h2) wd := by
                refine ⟨?_,?_,?_,by rw [hwdh]; exact A1.size,A1.num,A1.same,fun b hb ht => by rw [hwdh]; exact A1.keep b hb ht,fun b hb ht => ?_⟩
                · rcases hwd with rfl | rfl <;> exact A1.os
                · rcases hwd with rfl | rfl <;> exact A1.tape
                · rcases hwd with rfl | rfl <;> exact A1.output
                · obtain ⟨y,hy,e1⟩ := ht
                  rw [getO_cons] at hy
                  by_cases e2 : q = y
                  · subst e2; exact ⟨q,hpq,by rw [← e1,hβq]⟩
                  · rw [if_neg e2] at hy; exact A1.shr b hb ⟨y,hy,e1⟩
              have hMl : ∀ b,Mk β1 (Hold Fb (β r).b) ((q,.map es) :: h2) b → Mk β1 (Hold (Hold Fb (β r).b) (β q).b) h2 b := by
                rintro b (hb | ⟨y,hy,e1⟩)
                · exact .inl (.inl hb)
                · rw [getO_cons] at hy
                  by_cases e2 : q = y
                  · subst e2; exact .inl (.inr (by rw [← e1,hβq]))
                  · rw [if_neg e2] at hy; exact .inr ⟨y,hy,e1⟩
              have hwm : wd.heap[(β1 q).b]? = some (.map ents clock) := by rw [hwdh,hβq]; exact hmp1
              have hwr : ∀ {v d},Rep w1 (Mk β1 (Hold (Hold Fb (β r).b) (β q).b) h2) β1 (Lt n) v d → Rep wd (Mk β1 (Hold Fb (β r).b) ((q,.map es) :: h2)) β1 (Lt n) v d := fun hv =>
                hv.mono (Nat.le_of_eq (by rw [hwdh])) (fun b _ _ => by rw [hwdh]) (fun b _ hb => hMl b hb) _ (Sub.refl _) (fun _ _ => rfl)
              have hrel : Inv (RCc P) β1 (Lt n) (Hold Fb (β r).b) ((q,.map es) :: h2) wd := by
                refine Inv.release (w := wd) (r := q) (x := .map es) (by rw [hβq]; exact S3.inv) (by rw [hβq]; exact hnfq) hqn rfl (fun _ _ => rfl) ?_
                exact ⟨ents,clock,hwm,hst,hlen,fun i hi => ⟨hwr (hE1 i hi).1,hwr (hE1 i hi).2⟩⟩
              have hnq : ∀ b,¬ Tk β1 h2 b → b ≠ (β q).b → ¬ Tk β1 ((q,.map es) :: h2) b := by
                rintro b hb hb2 ⟨y,hy,e1⟩
                rw [getO_cons] at hy
                by_cases e2 : q = y
                · subst e2; exact hb2 (by rw [← e1,hβq])
                · rw [if_neg e2] at hy; exact hb ⟨y,hy,e1⟩
              have S4 : St P s0 ro m Fb β1 n ((q,.map es) :: h2) e0 a2 wd := by
                refine ⟨hrel.unhold,EnvOk.less (fun b hb => ?_) S3.env,S3.sz,?_,?_,S3.s0⟩
                · rcases hb with hb | hb
                  · exact .inl (.inl (.inl hb))
                  · exact hMl b (.inr hb)
                · obtain ⟨rs,d1,d2,d3⟩ := S3.dfr
                  refine ⟨rs,d1,d2,fun b hb => ⟨(d3 b hb).1,(d3 b hb).2.1,hnq b (d3 b hb).2.2 (fun e1 => ?_)⟩⟩
                  have := (d3 b hb).2.1
                  rw [e1,← hβq,hwm] at this
                  cases this
                · intro b hb
                  obtain ⟨L,g1,g2⟩ := S3.rnd b hb
                  refine ⟨L,g1,hnq b g2 (fun e1 => ?_)⟩
                  rw [e1,← hβq,hwm] at g1
                  cases g1
              exact hQ β1 a2 wd S4 A2
            · -- one more
              have S2 := S1.iter (it' := .mapIter (some (β q).b) since (seen.push x0.born) clock) hbr2 hit1 (hkind _ _) hwd
              obtain ⟨w2,hw2⟩ : ∃ w2,ChangeMaps.setBlock wd (β r).b (.mapIter (some (β q).b) since (seen.push x0.born) clock) = w2 := ⟨_,rfl⟩
              rw [hw2] at S2 hmore
              have hlt1 := lt_of_some hit1
              have h2r : w2.heap[(β r).b]? = some (.mapIter (some (β q).b) since (seen.push x0.born) clock) := by
                rw [← hw2]
                show (wd.heap.setIfInBounds _ _)[_]? = _
                rw [hwdh]
                simp [hlt1]
              have h2n : ∀ b,b ≠ (β r).b → w2.heap[b]? = w1.heap[b]? := fun b hb => by
                rw [← hw2]
                show (wd.heap.setIfInBounds _ _)[_]? = _
                rw [hwdh,Array.getElem?_setIfInBounds_ne (fun e => hb e.symm)]
              have h2s : w2.heap.size = w1.heap.size := by
                rw [← hw2]
                show (wd.heap.setIfInBounds _ _).size = _
                rw [hwdh]
                simp
              have h2m : w2.heap[(β q).b]? = some (.map ents clock) := (h2n _ hbne).trans hmp1
              refine mstep_ok (by rw [hvit]; exact hmore) rfl rfl S2 hnx hmo hjx hjm (fun a2 S3 hev => ?_)
              refine wpIn_seq (wpIn_cond hev (wpIn_skip ?_))
              refine wpIn_block (wpIn_seq (wpIn_region ?_))
              have h2mono : ∀ {v d},Rep w1 (Mk β1 (Hold (Hold Fb (β r).b) (β q).b) h2) β1 (Lt n) v d → Rep w2 (Mk β1 (Hold (Hold Fb (β r).b) (β q).b) h2) β1 (Lt n) v d := fun hv =>
                hv.mono (Nat.le_of_eq h2s.symm) (fun b _ hb => h2n b (fun e1 => hb (.inl (e1 ▸ hbr2)))) (fun _ _ hb => hb) _ (Sub.refl _) (fun _ _ => rfl)
              have hE2 : EntsOk w2 (Mk β1 (Hold (Hold Fb (β r).b) (β q).b) h2) β1 (Lt n) ents es := fun i hi => ⟨h2mono (hE1 i hi).1,h2mono (hE1 i hi).2⟩
              have hw2o : w2.os = w1.os ∧ w2.tape = w1.tape ∧ w2.output = w1.output := by
                rw [← hw2]
                rcases hwd with rfl | rfl <;> exact ⟨rfl,rfl,rfl⟩
              have A2 : Adv β (Lt n) h w β1 (Lt n) h2 w2 := ⟨hw2o.1.trans A1.os,hw2o.2.1.trans A1.tape,hw2o.2.2.trans A1.output,by rw [h2s]; exact A1.size,A1.num,A1.same,
                fun b hb ht => (h2n b (fun e1 => ht ⟨r,hpr',e1.symm⟩)).trans (A1.keep b hb ht),A1.shr⟩
              have done : ∀ {β3 : Nat → Bk} {n2 : Nat} {e2 : Tr} {a4 : Act} {w4 : World},sameT ws e0 e2 = true → St P s0 ro m (Hold (Hold Fb (β r).b) (β q).b) β3 n2 h2 e2 a4 w4 → Adv β1 (Lt n) h2 w2 β3 (Lt n2) h2 w4 → Code.roundsIn (FR ro) 0 P c Q k a4 w4 := by
                intro β3 n2 e2 a4 w4 hj S7 A7
                have A8 : Adv β1 (Lt n) h2 w2 β3 (Lt n) h2 w4 := ⟨A7.os,A7.tape,A7.output,A7.size,Sub.refl _,A7.same,A7.keep,A7.shr⟩
                have hI := S7.inv.lows hleak
                rw [hd2] at hI
                have S8 : St P s0 ro m (Hold (Hold Fb (β r).b) (β q).b) β3 n h2 e0 a4 w4 :=
                  ⟨hI,by rw [← he0] at hj hlow ⊢; exact S7.env.again hj hlow,S7.sz,S7.dfr,S7.rnd,S7.s0⟩
                have hr4 := (A8.keep _ (lt_of_some h2r) (S3.inv.frm _ hbr2).2).trans h2r
                have hq4 := (A8.keep _ (lt_of_some h2m) (S3.inv.frm _ (.inr rfl)).2).trans h2m
                have hls := left_shrinks ents seen x0 hx0
                exact ih (by omega) S8 (A2.trans A8) hr4 hq4 (.inr rfl) (fun i hi => ⟨(hE2 i hi).1.adv A8 (Sub.refl _) _ (Sub.refl _),(hE2 i hi).2.adv A8 (Sub.refl _) _ (Sub.refl _)⟩)
              have hvit2 : a2.eval (.tmp l.it) = .pointer (some ⟨(β r).b,0,none⟩) := by
                have hv := ev_ok S3.env S3.sz (.tmp l.it)
                have hcO : cO m (.tmp l.it) = .s (po l.it) := if_pos hit
                rw [hcO] at hv
                replace hv : Rep w2 _ β1 (Lt n) (a2.eval (.tmp l.it)) (get (po l.it) e0) := hv
                rw [hg] at hv
                generalize a2.eval (.tmp l.it) = v at hv
                cases hv
                rw [hβr]
                simp
              obtain ⟨i,hi,hent⟩ := run_entry_own (P := P) h2r h2m ⟨x0,(mem_left hx0).1,rfl⟩
              have hies : i < es.length := hlen ▸ hi
              have hsize : l.aops.size = rest.length + 1 := by rw [← Array.length_toList,haops]; rfl
              rw [List.range_eq_range',hsize]
              show wpOpsIn (FR ro) 0 P l.aops _ (0 :: List.range' 1 rest.length) a2 w2
              unfold wpOpsIn
              have hz : l.aops[0]? = some ⟨some l.pr,.entry (.tmp l.it),t3,p3,f3,none⟩ := by rw [← Array.getElem?_toList,haops]; rfl
              simp only [hz,Region.wanted,if_true]
              refine ⟨fun _ _ => trivial,?_⟩
              rw [Oper.semAt_eq _ _ _ (fun c h => by cases h)]
              show Oper.uponIn _ _ _ _ _ _ _ ((do pure (.value (← Instr.entry (a2.eval (.tmp l.it)))) : Sem Next).run P w2)
              rw [hvit2,run_v hent]
              have hkv : Rep w2 (Mk β1 (Hold (Hold Fb (β r).b) (β q).b) h2) β1 (Lt n) (.tuple #[(ents.getD i default).key,(ents.getD i default).val]) (.tup [(es.getD i (.junk,.junk)).1,(es.getD i (.junk,.junk)).2]) := by
                refine .tup _ _ rfl (fun j hj => ?_)
                match j with
                | 0 => exact (hE2 i hies).1
                | 1 => exact (hE2 i hies).2
                | j + 2 => simp at hj; omega
              have S5 := S3.put hm20 (show cDst m (some l.pr) = some (some (po l.pr)) from if_pos hpr) hkv
              obtain ⟨e2,n2,hr1,hj⟩ := hrun i hies
              have hasg : (l.aops.toList.drop 1).map (cOper P m l.aops) = rest.map (cOper P m l.aops) := by rw [haops]; rfl
              rw [hasg] at hr1
              replace hr1 : blockR l.nxt (seqR X (cCode P m l.body) (runOps (callX (cFk K P) X) (rest.map (cOper P m l.aops)) (putT (po l.pr) (.tup [(es.getD i (.junk,.junk)).1,(es.getD i (.junk,.junk)).2]) e0) n h2)) = .ok .normal e2 n2 h2 := hr1
              show wpOpsIn (FR ro) 0 P l.aops _ (List.range' 1 rest.length) (a2.put (some l.pr) _) w2
              have hblk : ∀ {x3 : Ex} {e3 : Tr} {n3 : Nat} {h3 : Hps},blockE l.nxt e3 n3 h3 x3 = .ok .normal e2 n2 h2 → e3 = e2 ∧ n3 = n2 ∧ h3 = h2 ∧ (x3 = .normal ∨ x3 = .exit l.nxt) := by
                intro x3 e3 n3 h3 hb
                cases x3 with
                | normal => cases hb; exact ⟨rfl,rfl,rfl,.inl rfl⟩
                | ret => cases hb
                | exit j =>
                  replace hb : Bool.rec (motive := fun _ => Re) (.ok (.exit j) e3 n3 h3) (.ok .normal e3 n3 h3) (Nat.beq j l.nxt) = .ok .normal e2 n2 h2 := hb
                  cases hb2 : Nat.beq j l.nxt with
                  | true => rw [hb2] at hb; cases hb; exact ⟨rfl,rfl,rfl,.inr (by rw [beq_eq hb2])⟩
                  | false => rw [hb2] at hb; cases hb
              cases hro : runOps (callX (cFk K P) X) (rest.map (cOper P m l.aops)) (putT (po l.pr) (.tup [(es.getD i (.junk,.junk)).1,(es.getD i (.junk,.junk)).2]) e0) n h2 with
              | bad => rw [hro] at hr1; cases hr1
              | ok x1 e1 n1 h1 =>
                rw [hro] at hr1
                refine reg_ok hX hXb hSo (ops := l.aops) rest 1 (fun i hi => ?_) S5 hro (fun β2 a3 w3 S6 A6 => ?_)
                · rw [← Array.getElem?_toList,haops,Nat.add_comm]; rfl
                · cases x1 with
                  | normal =>
                    replace hr1 : blockR l.nxt (X (cCode P m l.body) e1 n1 h1) = .ok .normal e2 n2 h2 := hr1
                    cases hbo : X (cCode P m l.body) e1 n1 h1 with
                    | bad => rw [hbo] at hr1; cases hr1
                    | ok x3 e3 n3 h3 =>
                      rw [hbo] at hr1
                      obtain ⟨g1,g2,g3,g4⟩ := hblk hr1
                      refine hX S6 hbo (fun β3 a4 w4 S7 A7 => ?_)
                      have hfinal := done hj (g1 ▸ g2 ▸ g3 ▸ S7) (A6.trans (g2 ▸ g3 ▸ A7))
                      rw [hc] at hfinal
                      rcases g4 with rfl | rfl
                      · exact hfinal
                      · show if l.nxt = l.nxt then _ else _
                        rw [if_pos rfl]
                        exact hfinal
                  | exit j =>
                    obtain ⟨g1,g2,g3,g4⟩ := hblk (show blockE l.nxt e1 n1 h1 (.exit j) = .ok .normal e2 n2 h2 from hr1)
                    have hfinal := done hj (g1 ▸ g2 ▸ g3 ▸ S6) (g2 ▸ g3 ▸ A6)
                    rw [hc] at hfinal
                    rcases g4 with g4 | g4
                    · cases g4
                    · cases g4
                      show if l.nxt = l.nxt then _ else _
                      rw [if_pos rfl]
                      exact hfinal
                  | ret => cases hr1
        exact wpIn_loop_rounds _ (rounds ((leftOf ents #[]).size + 1) (Nat.lt_succ_self _) S3 A3 hiter hmap (.inl rfl) hE3)
      | _ => rw [hoq] at hd; cases hd
    | _ => rw [hor] at hd; cases hd
  | _ => rw [hg] at hd; cases hd
end

theorem exec_bad (F : Nat → DFn) (f : Nat) (e : Tr) (n : Nat) (h : Hps) : exec F f .bad e n h = .bad := by cases f <;> rfl

theorem loop_ok {fuel : Nat} (hIH : ∀ f,f ≤ fuel → CodeOk P (exec (cFk K P) f)) {c : Code} {s0 : Nat} {ro : Option Nat} {m : Nat} {Fb : Nat → Prop} {Q : Exit → Act → World → Prop} {x : Ex} {e' : Tr} {n' : Nat} {h' : Hps} :
    ∀ (f : Nat),f ≤ fuel + 1 → ∀ {β : Nat → Bk} {n : Nat} {h : Hps} {e : Tr} {a : Act} {w : World},St P s0 ro m Fb β n h e a w → exec (cFk K P) f (.loop (cCode P m c)) e n h = .ok x e' n' h' →
      (∀ β' a' w',St P s0 ro m Fb β' n' h' e' a' w' → Adv β (Lt n) h w β' (Lt n') h' w' → Q (exOf x) a' w') → Code.roundsIn (FR ro) 0 P c Q f a w := by
  intro f
  induction f with
  | zero => intro _ β n h e a w S hd hQ; cases hd
  | succ f ih =>
    intro hf β n h e a w S hd hQ
    rw [roundsIn_succ]
    obtain ⟨x1,e1,n1,h1,g1,g2⟩ := seqR_inv (show seqR (exec (cFk K P) f) (.loop (cCode P m c)) (exec (cFk K P) f (cCode P m c) e n h) = .ok x e' n' h' from hd)
    refine hIH f (by omega) S g1 (fun β1 a1 w1 S1 A1 => ?_)
    rcases g2 with ⟨rfl,g2⟩ | ⟨g2,rfl,rfl,rfl,rfl⟩
    · exact ih (by omega) S1 g2 (fun β2 a2 w2 S2 A2 => hQ β2 a2 w2 S2 (A1.trans A2))
    · have := hQ β1 a1 w1 S1 A1
      cases x1 with
      | normal => exact absurd rfl g2
      | exit i => exact this
      | ret => exact this

theorem exec_xb (hB : BldOk P) (f : Nat) : XB P (exec (cFk K P) f) :=
  ⟨exec_bad _ f,fun j e n h => by cases f <;> first | exact .inl rfl | exact .inr rfl,hB⟩
theorem exec_ok (hB : BldOk P) (hD : ∀ X,CodeOk P X → XB P X → DrawOk (K := K) P X) (hS : ∀ X,CodeOk P X → XB P X → SoloOk K P X) : ∀ fuel,CodeOk P (exec (cFk K P) fuel) := by
  intro fuel
  induction fuel using Nat.strongRecOn with
  | _ fuel IH =>
  cases fuel with
  | zero => intro c s0 ro m Fb β n h e a w x e' n' h' Q S hd hQ; cases hd
  | succ f =>
    have hX : CodeOk P (exec (cFk K P) f) := @IH f (Nat.lt_succ_self _)
    have hXb : XB P (exec (cFk K P) f) := exec_xb hB f
    intro c s0 ro m Fb β n h e a w x e' n' h' Q S hd hQ
    replace hd : step (cFk K P) (exec (cFk K P) f) (cCode P m c) e n h = .ok x e' n' h' := hd
    cases c with
    | skip => cases hd; exact wpIn_skip (hQ _ _ _ S (Adv.refl _ _ _ _))
    | label l => cases hd; exact wpIn_label (hQ _ _ _ S (Adv.refl _ _ _ _))
    | ret => cases hd; exact wpIn_ret (hQ _ _ _ S (Adv.refl _ _ _ _))
    | exit i => cases hd; exact wpIn_exit (hQ _ _ _ S (Adv.refl _ _ _ _))
    | seq c1 c2 =>
      obtain ⟨x1,e1,n1,h1,g1,g2⟩ := seqR_inv (show seqR (exec (cFk K P) f) (cCode P m c2) (exec (cFk K P) f (cCode P m c1) e n h) = .ok x e' n' h' from hd)
      refine wpIn_seq (hX S g1 (fun β1 a1 w1 S1 A1 => ?_))
      rcases g2 with ⟨rfl,g2⟩ | ⟨g2,rfl,rfl,rfl,rfl⟩
      · exact hX S1 g2 (fun β2 a2 w2 S2 A2 => hQ β2 a2 w2 S2 (A1.trans A2))
      · have := hQ β1 a1 w1 S1 A1
        cases x1 with
        | normal => exact absurd rfl g2
        | exit i => exact this
        | ret => exact this
    | cond c0 c1 c2 =>
      replace hd : condR (exec (cFk K P) f) (cCode P m c1) (cCode P m c2) e n h (ev e (cO m c0)) = .ok x e' n' h' := hd
      have hev := ev_ok S.env S.sz c0
      revert hd hev
      generalize ev e (cO m c0) = G
      intro hd hev
      cases G with
      | bool t =>
        refine wpIn_cond (Rep.bool_inv hev) ?_
        cases t with
        | false => exact hX S hd hQ
        | true => exact hX S hd hQ
      | _ => cases hd
    | block i b =>
      replace hd : blockR i (exec (cFk K P) f (cCode P m b) e n h) = .ok x e' n' h' := hd
      cases hb : exec (cFk K P) f (cCode P m b) e n h with
      | bad => rw [hb] at hd; cases hd
      | ok x1 e1 n1 h1 =>
        rw [hb] at hd
        refine wpIn_block (hX S hb (fun β1 a1 w1 S1 A1 => ?_))
        cases x1 with
        | normal => cases hd; exact hQ β1 a1 w1 S1 A1
        | ret => cases hd; exact hQ β1 a1 w1 S1 A1
        | exit j =>
          replace hd : Bool.rec (motive := fun _ => Re) (.ok (.exit j) e1 n1 h1) (.ok .normal e1 n1 h1) (Nat.beq j i) = .ok x e' n' h' := hd
          show if j = i then _ else _
          cases hb2 : Nat.beq j i with
          | true =>
            rw [hb2] at hd
            cases hd
            rw [if_pos (beq_eq hb2)]
            exact hQ β1 a1 w1 S1 A1
          | false =>
            rw [hb2] at hd
            cases hd
            rw [if_neg (fun e => by rw [e,Nat.beq_refl] at hb2; cases hb2)]
            exact hQ β1 a1 w1 S1 A1
    | loop b =>
      replace hd : step (cFk K P) (exec (cFk K P) f) (cLoop P m b (cCode P m b) (seqB (cCode P m b))) e n h = .ok x e' n' h' := hd
      unfold cLoop at hd
      split at hd
      · rename_i l hl
        obtain ⟨id1,id2,t1,t2,t3,p1,p2,p3,f1,f2,f3,rest,hc,_⟩ := mLoop_inv hl
        have hsb : seqB (cCode P m b) = cCode P m l.body := by rw [hc]; rfl
        rw [hsb] at hd
        exact rngm_ok hX hXb (hS _ hX hXb) hl S (rest_out (mLoop_lt hl) S.m_lt) hd hQ
      · exact wpIn_loop_rounds (f + 1) (loop_ok (fuel := f) (fun g hg => @IH g (by omega)) (f + 1) (Nat.le_refl _) S hd hQ)
    | scope b =>
      refine wpIn_scope ?_
      refine hX S (show exec (cFk K P) f (cCode P m b) e n h = .ok x e' n' h' from hd) (fun β1 a1 w1 S1 A1 => ?_)
      have := hQ β1 a1 w1 S1 A1
      cases x <;> exact this
    | region id ops dr =>
      cases dr with
      | false =>
        refine wpIn_region ?_
        rw [List.range_eq_range']
        have := reg_ok hX hXb (hS _ hX hXb) (ops := ops) (Q := Q) ops.toList 0 (fun i hi => by simp) S (show runOps (callX (cFk K P) (exec (cFk K P) f)) (ops.toList.map (cOper P m ops)) e n h = .ok x e' n' h' from hd) hQ
        simpa using this
      | true =>
        by_cases hdo : drawOk (Region.before ops) ops (ops.toList.map (cOper P m ops)) = true
        · by_cases hdy : dynB (ops.toList.map (cOper P m ops)) = true
          · have hcc : cCode P m (.region id ops true) = .drawT (cUn P m ops) (cBar P m ops) (ops.toList.map (cOper P m ops)) := (if_pos hdo).trans (if_pos hdy)
            rw [hcc] at hd
            exact hD _ hX hXb (sd := strd e) (Nat.two_pow_pos _) S hdo hd hQ
          · have hcc : cCode P m (.region id ops true) = .draw (cUn P m ops) (cBar P m ops) (ops.toList.map (cOper P m ops)) := (if_pos hdo).trans (if_neg hdy)
            rw [hcc] at hd
            exact hD _ hX hXb (sd := stride) (by unfold stride; omega) S hdo hd hQ
        · have hcc : cCode P m (.region id ops true) = .bad := if_neg hdo
          rw [hcc] at hd
          cases hd
    | rangeFunc g ps c1 c2 =>
      by_cases hps : ps.toList.all (fun p => decide (p < m)) = true
      · have hcc : cCode P m (.rangeFunc g ps c1 c2) = .rng (cO m g) (ps.toList.map po) (cCode P m c1) (cCode P m c2) := if_pos hps
        rw [hcc] at hd
        refine rng_ok hX hXb S (fun p hp => ?_) hd hQ
        have := List.all_eq_true.1 hps p (Array.mem_toList_iff.2 hp)
        simpa using this
      · have hcc : cCode P m (.rangeFunc g ps c1 c2) = .bad := if_neg hps
        rw [hcc] at hd
        cases hd
    | _ => cases hd
end
end Go.Proofs.YtpbpmpabndgeeaaDoor
