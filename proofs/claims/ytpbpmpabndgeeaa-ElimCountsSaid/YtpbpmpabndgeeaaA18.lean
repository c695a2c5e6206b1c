/- Calls: a function's contract out of its body's run. No condition. -/
import Derived.Test.YtpbpmpabndgeeaaA16
import Derived.RangeFuncLeaves
import Derived.LoopNIn

/- Code,run: what a piece of code needs and leaves; calls; rounds. First part. No condition. -/
set_option linter.unusedSimpArgs false
set_option linter.unusedVariables false
namespace Go.Proofs.Ytpbpmpabndgeeaa
open Go

def FR (ro:Option Nat):Fence:={ Fence.wide with round:=ro }
theorem FR_depth (ro:Option Nat) {p:Prop} : (FR ro).depth.isSome=true→p:=fun h=>by cases h
def RCc (P:Program):Nat→Code→DCode→Prop:=fun m c d=>cCode P m c=d
def mark1 (r:Nat):Deferred:={ target := .collected r,args := #[] }
def exOf:Ex→Exit
  | .normal => .normal
  | .exit i => .exit i
  | .ret => .ret

def DefOk (s0:Nat) (w:World) (β:Nat→Bk) (h:Hps) (ds:List Deferred):Prop :=
  ∃ rs:List Nat,ds=rs.map mark1∧rs.Nodup∧∀ r,r∈rs→s0≤r∧w.heap[r]? = some (.deferred (some []))∧¬ Tk β h r
def RoOk (w:World) (β:Nat→Bk) (h:Hps) (ro:Option Nat):Prop:=∀ l,ro=some l→∃ L,w.heap[l]? = some (.loop L)∧¬ Tk β h l

structure St (P:Program) (s0:Nat) (ro:Option Nat) (m:Nat) (Fb:Nat→Prop) (β:Nat→Bk) (n:Nat) (h:Hps) (e:Tr) (a:Act) (w:World):Prop where
  inv:Inv (RCc P) β (Lt n) Fb h w
  env:EnvOk w (Mk β Fb h) β (Lt n) a.tmps e
  sz:m≤a.tmps.size
  dfr:DefOk s0 w β h a.defers
  rnd:RoOk w β h ro
  s0:s0≤w.heap.size

section
variable {P:Program} {s0:Nat} {ro:Option Nat} {m:Nat} {Fb:Nat→Prop} {β:Nat→Bk} {n:Nat} {h:Hps} {e:Tr} {a:Act} {w:World}

theorem lt_of_some {w:World} {b:Nat} {o:Obj} (h:w.heap[b]? = some o):b < w.heap.size := (Array.getElem?_eq_some_iff.1 h).1
theorem DefOk.adv {β':Nat→Bk} {U U':Us} {h':Hps} {w':World} {ds:List Deferred} (x:Adv β U h w β' U' h' w') (D:DefOk s0 w β h ds):DefOk s0 w' β' h' ds:=by
  obtain ⟨rs,h1,h2,h3⟩:=D
  refine ⟨rs,h1,h2,fun r hr=>?_⟩
  obtain ⟨h4,h5,h6⟩:=h3 r hr
  have hlt:=lt_of_some h5
  exact ⟨h4,(x.keep r hlt h6).trans h5,fun ht=>h6 (x.shr r hlt ht)⟩
theorem RoOk.adv {β':Nat→Bk} {U U':Us} {h':Hps} {w':World} (x:Adv β U h w β' U' h' w') (R:RoOk w β h ro):RoOk w' β' h' ro:=by
  intro l hl
  obtain ⟨L,h5,h6⟩:=R l hl
  have hlt:=lt_of_some h5
  exact ⟨L,(x.keep l hlt h6).trans h5,fun ht=>h6 (x.shr l hlt ht)⟩

theorem St.adv {β':Nat→Bk} {n':Nat} {h':Hps} {w':World} (S:St P s0 ro m Fb β n h e a w) (I:Inv (RCc P) β' (Lt n') Fb h' w') (x:Adv β (Lt n) h w β' (Lt n') h' w'):St P s0 ro m Fb β' n' h' e a w' :=
  ⟨I,S.env.adv x,S.sz,S.dfr.adv x,S.rnd.adv x,Nat.le_trans S.s0 x.size⟩
theorem St.put (S:St P s0 ro m Fb β n h e a w) (hm:m < 2 ^ 20) {dst:Option Nat} {dp:Option Po} (hd:cDst m dst=some dp) {v:Value} {d:D} (hv:Rep w (Mk β Fb h) β (Lt n) v d):St P s0 ro m Fb β n h (putE e dp d) (a.put dst v) w:=by
  refine ⟨S.inv,S.env.dst hm hv hd,?_,?_,S.rnd,S.s0⟩
  · cases dst with
    | none=>exact S.sz
    | some t=>show m ≤ (a.tmps.setIfInBounds t v).size; simpa using S.sz
  · cases dst with
    | none=>exact S.dfr
    | some t=>exact S.dfr
theorem St.m_lt (S:St P s0 ro m Fb β n h e a w):m < 2 ^ 20:=Nat.lt_of_le_of_lt S.sz S.env.1

def CodeOk (P:Program) (X:RunF):Prop :=
  ∀ {c:Code} {s0:Nat} {ro:Option Nat} {m:Nat} {Fb:Nat→Prop} {β:Nat→Bk} {n:Nat} {h:Hps} {e:Tr} {a:Act} {w:World} {x:Ex} {e':Tr} {n':Nat} {h':Hps} {Q:Exit→Act→World→Prop},
    St P s0 ro m Fb β n h e a w→X (cCode P m c) e n h = .ok x e' n' h' →
    (∀ β' a' w',St P s0 ro m Fb β' n' h' e' a' w'→Adv β (Lt n) h w β' (Lt n') h' w'→Q (exOf x) a' w')→c.wpIn (FR ro) 0 P Q a w

theorem argsT_get {U:Us} {M:Nat→Prop}:∀ (k s:Nat) (vs:List Value) (ds:List D),s+k≤2 ^ 20→vs.length=ds.length→ds.length=k → (∀ i,i < ds.length→Rep w M β U (vs.getD i undef) (ds.getD i .junk)) →
    ∀ t,t < 2 ^ 20 → (s≤t→t < s+k→Rep w M β U (vs.getD (t - s) undef) (get (po t) (argsT ds ((List.range' s k).map po)))) ∧ (¬ (s≤t∧t < s+k)→get (po t) (argsT ds ((List.range' s k).map po)) = .junk):=by
  have hlf:∀ p,get p .lf = .junk:=by
    intro p
    induction p with
    | h=>rfl
    | o p ih=>exact ih
    | i p ih=>exact ih
  intro k
  induction k with
  | zero =>
    intro s vs ds _ _ hk _ t ht
    have:ds=[]:=List.length_eq_zero_iff.1 hk
    subst this
    exact ⟨fun h1 h2=>by omega,fun _=>hlf _⟩
  | succ k ih =>
    intro s vs ds hs hl hk hr t ht
    cases ds with
    | nil=>cases hk
    | cons d ds =>
      cases vs with
      | nil=>cases hl
      | cons v vs =>
        have he:argsT (d::ds) ((List.range' s (k+1)).map po)=putT (po s) d (argsT ds ((List.range' (s+1) k).map po)):=rfl
        rw [he]
        have hi:=ih (s+1) vs ds (by omega) (by simpa using hl) (by simpa using hk) (fun i hi=>by simpa using hr (i+1) (by simp; omega)) t ht
        by_cases e:s=t
        · subst e
          rw [get_put_same]
          exact ⟨fun _ _=>by simpa using hr 0 (by simp),fun h=>absurd ⟨Nat.le_refl _,by omega⟩ h⟩
        · rw [get_put_ne d (po t) (po s) _ (fun h=>e (po_inj (by omega) ht h.symm))]
          refine ⟨fun h1 h2=>?_,fun h1=>hi.2 (fun h2=>h1 ⟨by omega,by omega⟩)⟩
          have:=hi.1 (by omega) (by omega)
          have e2:t - s = (t - (s+1))+1:=by omega
          rw [e2]
          simpa using this
theorem lenP_eq (l:List Po):lenP l=l.length:=by
  induction l with
  | nil=>rfl
  | cons a l ih=>show Nat.succ (lenP l)=_; rw [ih]; rfl

theorem args_env {U:Us} {M:Nat→Prop} {vs:Array Value} {ds:List D} {k nt:Nat} (hl:vs.size=ds.length) (hr:∀ i,i < ds.length→Rep w M β U (vs.getD i undef) (ds.getD i .junk)) (hk:ds.length=k) (hkn:k≤nt) (hnt:nt < 2 ^ 20) :
    EnvOk w M β U (vs++Array.replicate (nt - vs.size) undef) (argsT ds ((List.range k).map po)):=by
  refine ⟨by simp; omega,fun t ht=>?_⟩
  have ht2:t < nt:=by simp at ht; omega
  have hg:=argsT_get (w:=w) (β:=β) (U:=U) (M:=M) k 0 vs.toList ds (by omega) (by simpa using hl) hk (fun i hi=>by rw [getD_toList]; exact hr i hi) t (by omega)
  rw [List.range_eq_range']
  by_cases htk:t < k
  · have h1:=hg.1 (Nat.zero_le _) (by omega)
    have e : (vs++Array.replicate (nt - vs.size) undef).getD t undef=vs.toList.getD (t - 0) undef:=by
      rw [getD_toList]
      simp [Array.getD_eq_getD_getElem?,Array.getElem?_append_left (show t < vs.size by omega)]
    rw [e]
    exact h1
  · rw [hg.2 (fun h=>htk (by omega))]
    exact .junk
end
end Go.Proofs.Ytpbpmpabndgeeaa

/- Calls: a function's contract out of its body's run. No condition. -/
namespace Go.Proofs.Ytpbpmpabndgeeaa
open Go

section
variable {U:Us} {P:Program} {K:Nat→Bool} {RC:Nat→Code→DCode→Prop} {s0:Nat} {ro:Option Nat} {m:Nat} {Fb:Nat→Prop} {β:Nat→Bk} {n:Nat} {h:Hps} {e:Tr} {a:Act} {w:World}

theorem loadD_any {ag:Bool} {k N N':Nat} {x d:D} {n':Nat} {h h':Hps} (hd:loadD ag k N h x = .ok d n' h'):loadD ag k N' h x = .ok d N' h:=by
  have hok:∀ y,okD N h y = .ok d n' h'→okD N' h y = .ok d N' h:=by
    intro y e
    obtain ⟨rfl,_,_,h2⟩:=okD_inv e
    cases y <;> first | rfl | exact absurd rfl h2
  cases x with
  | ptr r i j =>
    have h1:loadR ag k i j N h (getO h r) = .ok d n' h':=hd
    show loadR ag k i j N' h (getO h r)=_
    cases hg:getO h r with
    | row kk es=>rw [hg] at h1; exact hok _ h1
    | _=>rw [hg] at h1; cases h1
  | ip y j=>exact hok _ hd
  | _=>cases hd

def resF (tmps:Array Value):ResultVar→Sem Value
  | .tmp t=>pure (tmps.getD t undef)
  | .cell a t=>do loadVar t (← asAddr (tmps.getD a undef))
theorem results_eq (fn:Func) (tmps:Array Value):results fn tmps = (do let vs ← fn.results.mapM (resF tmps); pure (if h:vs.size=1 then vs[0] else .tuple vs)):=rfl
theorem res1_ok (I:Inv RC β U Fb h w) {tmps:Array Value} (E:EnvOk w (Mk β Fb h) β U tmps e) (hm:m≤tmps.size) {r:ResultVar} {rv:RV} (hc:cRes P m r=some rv) {d:D} {n':Nat} {h':Hps} (hd:res1 h e rv = .ok d n' h') :
    ∃ v,(resF tmps r).run P w = .ok v w∧Rep w (Mk β Fb h) β U v d:=by
  cases r with
  | tmp t =>
    unfold cRes at hc
    simp only at hc
    split at hc
    · rename_i ht
      cases hc
      cases hd
      exact ⟨_,rfl,E.2 t (Nat.lt_of_lt_of_le ht hm)⟩
    · cases hc
  | cell c T =>
    unfold cRes at hc
    simp only at hc
    split at hc
    · rename_i ht
      split at hc
      · rename_i i dd hi hu
        cases hc
        obtain ⟨b,v,h1,h2,h3,_⟩:=loadD_ok (P:=P) I hi hu (E.2 c (Nat.lt_of_lt_of_le ht hm)) (loadD_any (N':=0) (show loadD (aggD dd) i.size 0 h (get (po c) e) = .ok d n' h' from hd))
        refine ⟨v,?_,h3⟩
        simp only [resF,h1,Sem.run_bind,asAddr,Sem.run_pure,Result.andThen_ok,h2]
      · cases hc
    · cases hc

theorem results_ok (I:Inv RC β U Fb h w) {tmps:Array Value} (E:EnvOk w (Mk β Fb h) β U tmps e) (hm:m≤tmps.size):∀ (rs:List ResultVar) (l:List RV) (ds:List D),cRess P m rs=some l→resL h e l = .ok ds →
    ∃ vs:List Value,(rs.mapM (resF tmps)).run P w = .ok vs w∧vs.length=ds.length∧∀ i,i < ds.length→Rep w (Mk β Fb h) β U (vs.getD i undef) (ds.getD i .junk):=by
  intro rs
  induction rs with
  | nil =>
    intro l ds hc hd
    cases hc
    cases hd
    exact ⟨[],rfl,rfl,fun i hi=>absurd hi (Nat.not_lt_zero _)⟩
  | cons r rs ih =>
    intro l ds hc hd
    unfold cRess at hc
    split at hc
    · rename_i rv l2 h1 h2
      cases hc
      have hd2:resC (res1 h e rv) (resL h e l2) = .ok ds:=hd
      cases h3:res1 h e rv with
      | bad=>rw [h3] at hd2; cases hd2
      | ok d0 n1 h1' =>
        cases h4:resL h e l2 with
        | bad=>rw [h3,h4] at hd2; cases hd2
        | ok ds2 =>
          rw [h3,h4] at hd2
          cases hd2
          obtain ⟨v,g1,g2⟩:=res1_ok I E hm h1 h3
          obtain ⟨vs,g3,g4,g5⟩:=ih l2 ds2 h2 h4
          refine ⟨v::vs,?_,by simpa using g4,fun i hi=>?_⟩
          · rw [List.mapM_cons,Sem.run_bind]
            simp only [g1,Result.andThen_ok,Sem.run_bind,g3,Sem.run_pure]
          · cases i with
            | zero=>exact g2
            | succ i=>simpa using g5 i (by simpa using hi)
    · cases hc

theorem results_run (I:Inv RC β U Fb h w) {tmps:Array Value} (E:EnvOk w (Mk β Fb h) β U tmps e) (hm:m≤tmps.size) {fn:Func} {l:List RV} {ds:List D} (hc:cRess P m fn.results.toList=some l) (hd:resL h e l = .ok ds) :
    ∃ v,(results fn tmps).run P w = .ok v w∧Rep w (Mk β Fb h) β U v (tupD ds):=by
  obtain ⟨vs,h1,h2,h3⟩:=results_ok I E hm fn.results.toList l ds hc hd
  have hrun : (fn.results.mapM (resF tmps)).run P w = .ok vs.toArray w:=by
    rw [Array.mapM_eq_mapM_toList,Sem.run_map,h1]
    rfl
  have htup:vs.length≠1→Rep w (Mk β Fb h) β U (.tuple vs.toArray) (tupD ds):=by
    intro hne
    match ds,vs,h2,h3 with
    | [],[],_,_=>exact .tup #[] [] rfl (fun i hi=>absurd hi (Nat.not_lt_zero _))
    | [d],[v],_,_=>exact (hne rfl).elim
    | d1::d2::dt,v1::v2::vt,h2,h3 =>
      refine .tup _ _ (by simpa using h2) (fun i hi=>?_)
      rw [getD_toArray]
      exact h3 i hi
  rw [results_eq,Sem.run_bind]
  simp only [hrun,Result.andThen_ok,Sem.run_pure]
  by_cases h1:vs.length=1
  · obtain ⟨v,rfl⟩:=List.length_eq_one_iff.1 h1
    obtain ⟨d,rfl⟩:=List.length_eq_one_iff.1 (h2.symm.trans h1)
    exact ⟨v,rfl,h3 0 (by simp)⟩
  · refine ⟨.tuple vs.toArray,?_,htup h1⟩
    rw [dif_neg (by simpa using h1)]

theorem ObOk.side {U:Us} {w':World} (hs:w'.heap.size=w.heap.size) (ho:∀ b:Nat,(∀ d,w.heap[b]? ≠ some (Obj.deferred d))→w'.heap[b]? = w.heap[b]?) {M:Nat→Prop} {o:Ob} {B:Bk} (H:ObOk RC w M β U o B):ObOk RC w' M β U o B:=by
  have hR:∀ {V:Us} {v d},Rep w M β V v d→Rep w' M β V v d:=fun hr=>hr.monoC (Nat.le_of_eq hs.symm) (fun b c T fr e _=>ho b (fun d e2=>by rw [e] at e2; cases e2)) (fun _ _ hm=>hm) _ (Sub.refl _) (fun _ _=>rfl)
  cases o with
  | none=>trivial
  | row k es =>
    obtain ⟨h1,h2,h3,c,T,h4,h5,h6⟩:=H
    exact ⟨h1,h2,h3,c,T,h4.by (ho _ (fun d e2=>by obtain ⟨_,h4,_⟩:=h4; rw [h4] at e2; cases e2)),h5,fun i hi j hj=>⟨(h6 i hi j hj).1,hR (h6 i hi j hj).2⟩⟩
  | map es =>
    obtain ⟨ents,clock,h1,hst,h2,h3⟩:=H
    exact ⟨ents,clock,(ho _ (fun d e2=>by rw [h1] at e2; cases e2)).trans h1,hst,h2,fun i hi=>⟨hR (h3 i hi).1,hR (h3 i hi).2⟩⟩
  | mit q =>
    obtain ⟨hq,since,h1⟩:=H
    exact ⟨hq,since,(ho _ (fun d e2=>by rw [h1] at e2; cases e2)).trans h1⟩
  | loop k env ps a b j =>
    obtain ⟨L,h1,h2,h3,h4,h5⟩:=H
    exact ⟨L,(ho _ (fun d e2=>by rw [h1] at e2; cases e2)).trans h1,h2,h3,⟨h4.1,fun t ht=>hR (h4.2 t ht)⟩,h5⟩
theorem Inv.side {w':World} (hs:w'.heap.size=w.heap.size) (ho:∀ b:Nat,(∀ d,w.heap[b]? ≠ some (Obj.deferred d))→w'.heap[b]? = w.heap[b]?) (I:Inv RC β U Fb h w):Inv RC β U Fb h w' :=
  ⟨I.key,fun r hr=>by rw [hs]; exact I.lt r hr,fun r=>ObOk.side hs ho (I.obj r),I.inj,fun b hb=>⟨by rw [hs]; exact (I.frm b hb).1,(I.frm b hb).2⟩⟩

theorem leaves_ok {fn:Func} {tmps:Array Value} {R:Ending→World→Prop}:∀ (rs:List Nat) (w:World),rs.Nodup → (∀ r,r∈rs→w.heap[r]? = some (.deferred (some []))) →
    (∀ w',w'.os=w.os→w'.tape=w.tape→w'.output=w.output→w'.heap.size=w.heap.size → (∀ b,b ∉ rs→w'.heap[b]? = w.heap[b]?)→∃ v,(results fn tmps).run P w' = .ok v w'∧R (.returned v) w') →
    LeavesInM (FR none) 0 P fn tmps R (rs.map mark1) .returning w:=by
  intro rs
  induction rs with
  | nil=>intro w _ _ H; exact H w rfl rfl rfl rfl (fun _ _=>rfl)
  | cons r rs ih =>
    intro w hn hr H
    have h1:=hr r (by simp)
    have hn2:=List.nodup_cons.1 hn
    refine ⟨(fun h=>by cases h),.inl ⟨r,{ w with heap:=w.heap.setIfInBounds r (.deferred none) },rfl,?_,?_⟩⟩
    · simp [Instr.takeDeferred,getObj,setObj,Sem.run,h1]
    · refine ih _ hn2.2 (fun q hq=>?_) (fun w' e1 e2 e3 e4 e5=>?_)
      · have:r≠q:=fun e=>hn2.1 (e ▸ hq)
        show (w.heap.setIfInBounds r _)[q]? = _
        rw [Array.getElem?_setIfInBounds_ne this]
        exact hr q (by simp [hq])
      · refine H w' e1 e2 e3 (by rw [e4]; simp) (fun b hb=>?_)
        rw [e5 b (fun h=>hb (by simp [h]))]
        show (w.heap.setIfInBounds r _)[b]? = _
        rw [Array.getElem?_setIfInBounds_ne (fun e=>hb (by simp [e]))]

def CallPost (P:Program) (Fb:Nat→Prop) (β:Nat→Bk) (n:Nat) (h:Hps) (w:World) (d:D) (n':Nat) (h':Hps):Ending→World→Prop:=fun en w' =>
  ∃ v β',en = .returned v∧Rep w' (Mk β' Fb h') β' (Lt n') v d∧Inv (RCc P) β' (Lt n') Fb h' w'∧Adv β (Lt n) h w β' (Lt n') h' w'

theorem callFn_ok {X:RunF} (hX:CodeOk P X) (hXb:∀ e n h,X .bad e n h = .bad) {f:FuncId} {vs:Array Value} {ds:List D} {d:D} {n':Nat} {h':Hps} (I:Inv (RCc P) β (Lt n) Fb h w) (hl:vs.size=ds.length)
    (hr:∀ i,i < ds.length→Rep w (Mk β Fb h) β (Lt n) (vs.getD i undef) (ds.getD i .junk)) (hd:callFn X n h ds (cFk K P f) = .ok d n' h') :
    ∃ fn c,P.funcs[f]? = some fn∧fn.body=some c∧fn.name ≠ "runtime.NumGoroutine" ∧ ∀ ro,CallsIn (FR ro) 0 P f vs w (CallPost P Fb β n h w d n' h'):=by
  obtain ⟨hlen,hd⟩:=ifR_inv (show ifR (Nat.beq (lenL ds) (lenP (cFk K P f).ps)) (fin (cFk K P f).keep n (cFk K P f).res (X (cFk K P f).body (argsT ds (cFk K P f).ps) n h)) = .ok d n' h' from hd)
  have hlen:=beq_eq hlen
  rw [lenL_eq,lenP_eq] at hlen
  cases hx:X (cFk K P f).body (argsT ds (cFk K P f).ps) n h with
  | bad =>
    rw [hx] at hd
    revert hd
    cases (cFk K P f).keep <;> intro hd <;> cases hd
  | ok x e1 n1 h1 =>
    rw [hx] at hd
    have hbad:cFk K P f≠noFn:=by
      intro e2
      rw [e2] at hx
      rw [show (noFn).body=DCode.bad from rfl,hXb] at hx
      cases hx
    cases hf:P.funcs[f]? with
    | none=>exact absurd (show cFk K P f=noFn by simp [cFk,hf]) hbad
    | some fn =>
      have hcf:cFk K P f=cFunc (K f) P fn:=by simp [cFk,hf]
      rw [hcf] at hx hd hbad hlen
      cases hb:fn.body with
      | none=>exact absurd (by unfold cFunc; simp only [hb]) hbad
      | some b =>
      cases hres:cRess P fn.ntmps fn.results.toList with
      | none=>exact absurd (by unfold cFunc; simp only [hb,hres]) hbad
      | some l =>
        by_cases hc:fn.ntmps < 2 ^ 20∧fn.name ≠ "runtime.NumGoroutine" ∧ fn.params.size + fn.nfree ≤ fn.ntmps
        · have hcf2:cFunc (K f) P fn=⟨cCode P fn.ntmps b,(List.range (fn.params.size+fn.nfree)).map po,l,K f⟩:=by unfold cFunc; simp only [hb,hres]; exact if_pos hc
          rw [hcf2] at hx hd hlen
          obtain ⟨hc1,hc2,hc3⟩:=hc
          refine ⟨fn,b,rfl,hb,hc2,fun ro=>?_⟩
          have hlen2:ds.length=fn.params.size+fn.nfree:=by simpa using hlen
          show CallsIn (FR none) 0 P f vs w _
          refine callsIn_of_wp_marks hf hb trivial ?_
          refine hX (s0:=w.heap.size) (ro:=none) (m:=fn.ntmps) ⟨I,args_env hl hr hlen2 hc3 hc1,by simp; omega,⟨[],rfl,List.nodup_nil,(fun r hr=>by cases hr)⟩,(fun l hl=>by cases hl),Nat.le_refl _⟩ hx (fun β' a' w' S A=>?_)
          have key:∀ {ds2},resL h1 e1 l = .ok ds2→finishD n n1 h1 (tupD ds2) = .ok d n' h'∨keepD n n1 h1 (tupD ds2) = .ok d n' h'→LeavesInM (FR none) 0 P fn a'.tmps (CallPost P Fb β n h w d n' h') a'.defers .returning w':=by
            intro ds2 hds hfin
            obtain ⟨rs,g1,g2,g3⟩:=S.dfr
            rw [g1]
            refine leaves_ok rs w' g2 (fun r hr => (g3 r hr).2.1) (fun w2 e1 e2 e3 e4 e5=>?_)
            have hside:∀ b:Nat,(∀ d,w'.heap[b]? ≠ some (Obj.deferred d))→w2.heap[b]? = w'.heap[b]? := fun b hb=>e5 b (fun hin=>hb _ (g3 b hin).2.1)
            have I2:=Inv.side e4 hside S.inv
            have E2:EnvOk w2 (Mk β' Fb h1) β' (Lt n1) a'.tmps _:=⟨S.env.1,fun t ht => (S.env.2 t ht).monoC (Nat.le_of_eq e4.symm) (fun b c T fr e _=>hside b (fun d e2=>by rw [e] at e2; cases e2)) (fun _ _ hm=>hm) _ (Sub.refl _) (fun _ _=>rfl)⟩
            obtain ⟨v,g4,g5⟩:=results_run I2 E2 S.sz hres hds
            have hnn:n≤n1:=by
              rcases Nat.lt_or_ge n1 n with h | h
              · exact absurd (A.num n1 h) (Nat.lt_irrefl _)
              · exact h
            obtain ⟨β2,g10,g9,g6,g7,g8⟩:=finish_keep I2 hnn g5 hfin
            refine ⟨v,g4,v,β2,rfl,g6,g7,⟨e1.trans A.os,e2.trans A.tape,e3.trans A.output,e4 ▸ A.size,Sub.lt g9,(fun r hr => (g10 r hr).trans (A.same r hr)),fun b hb hn=>?_,fun b hb ht=>A.shr b hb (g8 b ht)⟩⟩
            rw [e5 b (fun hin=>by have := (g3 b hin).1; omega)]
            exact A.keep b hb hn
          cases hk:K f with
          | false =>
            rw [hk] at hd
            have hd:finishE n l e1 n1 h1 x = .ok d n' h':=hd
            cases x with
            | exit i=>cases hd
            | normal =>
              have hd2:finishL n n1 h1 (resL h1 e1 l) = .ok d n' h':=hd
              cases hds:resL h1 e1 l with
              | bad=>rw [hds] at hd2; cases hd2
              | ok ds2=>rw [hds] at hd2; exact key hds (.inl hd2)
            | ret =>
              have hd2:finishL n n1 h1 (resL h1 e1 l) = .ok d n' h':=hd
              cases hds:resL h1 e1 l with
              | bad=>rw [hds] at hd2; cases hd2
              | ok ds2=>rw [hds] at hd2; exact key hds (.inl hd2)
          | true =>
            rw [hk] at hd
            have hd:finKE n l e1 n1 h1 x = .ok d n' h':=hd
            cases x with
            | exit i=>cases hd
            | normal =>
              have hd2:finKL n n1 h1 (resL h1 e1 l) = .ok d n' h':=hd
              cases hds:resL h1 e1 l with
              | bad=>rw [hds] at hd2; cases hd2
              | ok ds2=>rw [hds] at hd2; exact key hds (.inr hd2)
            | ret =>
              have hd2:finKL n n1 h1 (resL h1 e1 l) = .ok d n' h':=hd
              cases hds:resL h1 e1 l with
              | bad=>rw [hds] at hd2; cases hd2
              | ok ds2=>rw [hds] at hd2; exact key hds (.inr hd2)
        · exact absurd (by unfold cFunc; simp only [hb,hres]; exact if_neg hc) hbad
end
end Go.Proofs.Ytpbpmpabndgeeaa
