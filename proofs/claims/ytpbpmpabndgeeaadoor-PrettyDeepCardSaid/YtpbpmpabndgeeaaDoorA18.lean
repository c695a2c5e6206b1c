/- Calls: a function's contract out of its body's run. No condition. -/
import Derived.Test.YtpbpmpabndgeeaaDoorA16
import Derived.RangeFuncLeaves
import Derived.LoopNIn

/- Code,run: what a piece of code needs and leaves; calls; rounds. First part. No condition. -/
set_option linter.unusedSimpArgs false
set_option linter.unusedVariables false
namespace Go.Proofs.YtpbpmpabndgeeaaDoor
open Go

def FR (ro : Option Nat) : Fence := { Fence.wide with round := ro }
theorem FR_none : FR none = Fence.wide := rfl
theorem FR_fn (ro : Option Nat) (f : FuncId) : (FR ro).fn f := trivial
theorem FR_depth (ro : Option Nat) {p : Prop} : (FR ro).depth.isSome = true → p := fun h => by cases h
def RCc (P : Program) : Nat → Code → DCode → Prop := fun m c d => cCode P m c = d
def mark1 (r : Nat) : Deferred := { target := .collected r,args := #[] }
def exOf : Ex → Exit
  | .normal => .normal
  | .exit i => .exit i
  | .ret => .ret

def DefOk (s0 : Nat) (w : World) (β : Nat → Bk) (h : Hps) (ds : List Deferred) : Prop :=
  ∃ rs : List Nat,ds = rs.map mark1 ∧ rs.Nodup ∧ ∀ r,r ∈ rs → s0 ≤ r ∧ w.heap[r]? = some (.deferred (some [])) ∧ ¬ Tk β h r
def RoOk (w : World) (β : Nat → Bk) (h : Hps) (ro : Option Nat) : Prop := ∀ l,ro = some l → ∃ L,w.heap[l]? = some (.loop L) ∧ ¬ Tk β h l

structure St (P : Program) (s0 : Nat) (ro : Option Nat) (m : Nat) (Fb : Nat → Prop) (β : Nat → Bk) (n : Nat) (h : Hps) (e : Tr) (a : Act) (w : World) : Prop where
  inv : Inv (RCc P) β (Lt n) Fb h w
  env : EnvOk w (Mk β Fb h) β (Lt n) a.tmps e
  sz : m ≤ a.tmps.size
  dfr : DefOk s0 w β h a.defers
  rnd : RoOk w β h ro
  s0 : s0 ≤ w.heap.size

section
variable {P : Program} {s0 : Nat} {ro : Option Nat} {m : Nat} {Fb : Nat → Prop} {β : Nat → Bk} {n : Nat} {h : Hps} {e : Tr} {a : Act} {w : World}

theorem lt_of_some {w : World} {b : Nat} {o : Obj} (h : w.heap[b]? = some o) : b < w.heap.size := (Array.getElem?_eq_some_iff.1 h).1
theorem DefOk.adv {β' : Nat → Bk} {U U' : Us} {h' : Hps} {w' : World} {ds : List Deferred} (x : Adv β U h w β' U' h' w') (D : DefOk s0 w β h ds) : DefOk s0 w' β' h' ds := by
  obtain ⟨rs,h1,h2,h3⟩ := D
  refine ⟨rs,h1,h2,fun r hr => ?_⟩
  obtain ⟨h4,h5,h6⟩ := h3 r hr
  have hlt := lt_of_some h5
  exact ⟨h4,(x.keep r hlt h6).trans h5,fun ht => h6 (x.shr r hlt ht)⟩
theorem RoOk.adv {β' : Nat → Bk} {U U' : Us} {h' : Hps} {w' : World} (x : Adv β U h w β' U' h' w') (R : RoOk w β h ro) : RoOk w' β' h' ro := by
  intro l hl
  obtain ⟨L,h5,h6⟩ := R l hl
  have hlt := lt_of_some h5
  exact ⟨L,(x.keep l hlt h6).trans h5,fun ht => h6 (x.shr l hlt ht)⟩

theorem St.adv {β' : Nat → Bk} {n' : Nat} {h' : Hps} {w' : World} (S : St P s0 ro m Fb β n h e a w) (I : Inv (RCc P) β' (Lt n') Fb h' w') (x : Adv β (Lt n) h w β' (Lt n') h' w') : St P s0 ro m Fb β' n' h' e a w' :=
  ⟨I,S.env.adv x,S.sz,S.dfr.adv x,S.rnd.adv x,Nat.le_trans S.s0 x.size⟩
theorem St.put (S : St P s0 ro m Fb β n h e a w) (hm : m < 2 ^ 20) {dst : Option Nat} {dp : Option Po} (hd : cDst m dst = some dp) {v : Value} {d : D} (hv : Rep w (Mk β Fb h) β (Lt n) v d) : St P s0 ro m Fb β n h (putE e dp d) (a.put dst v) w := by
  refine ⟨S.inv,S.env.dst hm hv hd,?_,?_,S.rnd,S.s0⟩
  · cases dst with
    | none => exact S.sz
    | some t => show m ≤ (a.tmps.setIfInBounds t v).size; simpa using S.sz
  · cases dst with
    | none => exact S.dfr
    | some t => exact S.dfr
theorem St.m_lt (S : St P s0 ro m Fb β n h e a w) : m < 2 ^ 20 := Nat.lt_of_le_of_lt S.sz S.env.1

def CodeOk (P : Program) (X : RunF) : Prop :=
  ∀ {c : Code} {s0 : Nat} {ro : Option Nat} {m : Nat} {Fb : Nat → Prop} {β : Nat → Bk} {n : Nat} {h : Hps} {e : Tr} {a : Act} {w : World} {x : Ex} {e' : Tr} {n' : Nat} {h' : Hps} {Q : Exit → Act → World → Prop},
    St P s0 ro m Fb β n h e a w → X (cCode P m c) e n h = .ok x e' n' h' →
    (∀ β' a' w',St P s0 ro m Fb β' n' h' e' a' w' → Adv β (Lt n) h w β' (Lt n') h' w' → Q (exOf x) a' w') → c.wpIn (FR ro) 0 P Q a w

theorem argsT_get {U : Us} {M : Nat → Prop} : ∀ (k s : Nat) (vs : List Value) (ds : List D),s + k ≤ 2 ^ 20 → vs.length = ds.length → ds.length = k → (∀ i,i < ds.length → Rep w M β U (vs.getD i undef) (ds.getD i .junk)) →
    ∀ t,t < 2 ^ 20 → (s ≤ t → t < s + k → Rep w M β U (vs.getD (t - s) undef) (get (po t) (argsT ds ((List.range' s k).map po)))) ∧ (¬ (s ≤ t ∧ t < s + k) → get (po t) (argsT ds ((List.range' s k).map po)) = .junk) := by
  have hlf : ∀ p,get p .lf = .junk := by
    intro p
    induction p with
    | h => rfl
    | o p ih => exact ih
    | i p ih => exact ih
  intro k
  induction k with
  | zero =>
    intro s vs ds _ _ hk _ t ht
    have : ds = [] := List.length_eq_zero_iff.1 hk
    subst this
    exact ⟨fun h1 h2 => by omega,fun _ => hlf _⟩
  | succ k ih =>
    intro s vs ds hs hl hk hr t ht
    cases ds with
    | nil => cases hk
    | cons d ds =>
      cases vs with
      | nil => cases hl
      | cons v vs =>
        have he : argsT (d :: ds) ((List.range' s (k + 1)).map po) = putT (po s) d (argsT ds ((List.range' (s + 1) k).map po)) := rfl
        rw [he]
        have hi := ih (s + 1) vs ds (by omega) (by simpa using hl) (by simpa using hk) (fun i hi => by simpa using hr (i + 1) (by simp; omega)) t ht
        by_cases e : s = t
        · subst e
          rw [get_put_same]
          exact ⟨fun _ _ => by simpa using hr 0 (by simp),fun h => absurd ⟨Nat.le_refl _,by omega⟩ h⟩
        · rw [get_put_ne d (po t) (po s) _ (fun h => e (po_inj (by omega) ht h.symm))]
          refine ⟨fun h1 h2 => ?_,fun h1 => hi.2 (fun h2 => h1 ⟨by omega,by omega⟩)⟩
          have := hi.1 (by omega) (by omega)
          have e2 : t - s = (t - (s + 1)) + 1 := by omega
          rw [e2]
          simpa using this
theorem lenP_eq (l : List Po) : lenP l = l.length := by
  induction l with
  | nil => rfl
  | cons a l ih => show Nat.succ (lenP l) = _; rw [ih]; rfl

theorem args_env {U : Us} {M : Nat → Prop} {vs : Array Value} {ds : List D} {k nt : Nat} (hl : vs.size = ds.length) (hr : ∀ i,i < ds.length → Rep w M β U (vs.getD i undef) (ds.getD i .junk)) (hk : ds.length = k) (hkn : k ≤ nt) (hnt : nt < 2 ^ 20) :
    EnvOk w M β U (vs ++ Array.replicate (nt - vs.size) undef) (argsT ds ((List.range k).map po)) := by
  refine ⟨by simp; omega,fun t ht => ?_⟩
  have ht2 : t < nt := by simp at ht; omega
  have hg := argsT_get (w := w) (β := β) (U := U) (M := M) k 0 vs.toList ds (by omega) (by simpa using hl) hk (fun i hi => by rw [getD_toList]; exact hr i hi) t (by omega)
  rw [List.range_eq_range']
  by_cases htk : t < k
  · have h1 := hg.1 (Nat.zero_le _) (by omega)
    have e : (vs ++ Array.replicate (nt - vs.size) undef).getD t undef = vs.toList.getD (t - 0) undef := by
      rw [getD_toList]
      simp [Array.getD_eq_getD_getElem?,Array.getElem?_append_left (show t < vs.size by omega)]
    rw [e]
    exact h1
  · rw [hg.2 (fun h => htk (by omega))]
    exact .junk
end
end Go.Proofs.YtpbpmpabndgeeaaDoor

/- Calls: a function's contract out of its body's run. No condition. -/
namespace Go.Proofs.YtpbpmpabndgeeaaDoor
open Go

section
variable {U : Us} {P : Program} {K : Nat → Bool} {RC : Nat → Code → DCode → Prop} {s0 : Nat} {ro : Option Nat} {m : Nat} {Fb : Nat → Prop} {β : Nat → Bk} {n : Nat} {h : Hps} {e : Tr} {a : Act} {w : World}

theorem loadD_any {ag : Bool} {k N N' : Nat} {x d : D} {n' : Nat} {h h' : Hps} (hd : loadD ag k N h x = .ok d n' h') : loadD ag k N' h x = .ok d N' h := by
  have hok : ∀ y,okD N h y = .ok d n' h' → okD N' h y = .ok d N' h := by
    intro y e
    obtain ⟨rfl,_,_,h2⟩ := okD_inv e
    cases y <;> first | rfl | exact absurd rfl h2
  cases x with
  | ptr r i j =>
    have h1 : loadR ag k i j N h (getO h r) = .ok d n' h' := hd
    show loadR ag k i j N' h (getO h r) = _
    cases hg : getO h r with
    | row kk es => rw [hg] at h1; exact hok _ h1
    | tob t y => rw [hg] at h1; exact hok _ h1
    | _ => rw [hg] at h1; cases h1
  | ip y j => exact hok _ hd
  | _ => cases hd

def resF (tmps : Array Value) : ResultVar → Sem Value
  | .tmp t => pure (tmps.getD t undef)
  | .cell a t => do loadVar t (← asAddr (tmps.getD a undef))
theorem results_eq (fn : Func) (tmps : Array Value) : results fn tmps = (do let vs ← fn.results.mapM (resF tmps); pure (if h : vs.size = 1 then vs[0] else .tuple vs)) := rfl
theorem res1_ok (I : Inv RC β U Fb h w) {tmps : Array Value} (E : EnvOk w (Mk β Fb h) β U tmps e) (hm : m ≤ tmps.size) {r : ResultVar} {rv : RV} (hc : cRes P m r = some rv) {d : D} {n' : Nat} {h' : Hps} (hd : res1 h e rv = .ok d n' h') :
    ∃ v,(resF tmps r).run P w = .ok v w ∧ Rep w (Mk β Fb h) β U v d := by
  cases r with
  | tmp t =>
    unfold cRes at hc
    simp only at hc
    split at hc
    · rename_i ht
      cases hc
      cases hd
      exact ⟨_,rfl,E.2 t (Nat.lt_of_lt_of_le ht hm)⟩
    · cases hc
  | cell c T =>
    unfold cRes at hc
    simp only at hc
    split at hc
    · rename_i ht
      split at hc
      · rename_i i dd hi hu
        cases hc
        obtain ⟨b,v,h1,h2,h3,_⟩ := loadD_ok (P := P) I hi hu (E.2 c (Nat.lt_of_lt_of_le ht hm)) (loadD_any (N' := 0) (show loadD (aggD dd) i.size 0 h (get (po c) e) = .ok d n' h' from hd))
        refine ⟨v,?_,h3⟩
        simp only [resF,h1,Sem.run_bind,asAddr,Sem.run_pure,Result.andThen_ok,h2]
      · cases hc
    · cases hc

theorem results_ok (I : Inv RC β U Fb h w) {tmps : Array Value} (E : EnvOk w (Mk β Fb h) β U tmps e) (hm : m ≤ tmps.size) : ∀ (rs : List ResultVar) (l : List RV) (ds : List D),cRess P m rs = some l → resL h e l = .ok ds →
    ∃ vs : List Value,(rs.mapM (resF tmps)).run P w = .ok vs w ∧ vs.length = ds.length ∧ ∀ i,i < ds.length → Rep w (Mk β Fb h) β U (vs.getD i undef) (ds.getD i .junk) := by
  intro rs
  induction rs with
  | nil =>
    intro l ds hc hd
    cases hc
    cases hd
    exact ⟨[],rfl,rfl,fun i hi => absurd hi (Nat.not_lt_zero _)⟩
  | cons r rs ih =>
    intro l ds hc hd
    unfold cRess at hc
    split at hc
    · rename_i rv l2 h1 h2
      cases hc
      have hd2 : resC (res1 h e rv) (resL h e l2) = .ok ds := hd
      cases h3 : res1 h e rv with
      | bad => rw [h3] at hd2; cases hd2
      | ok d0 n1 h1' =>
        cases h4 : resL h e l2 with
        | bad => rw [h3,h4] at hd2; cases hd2
        | ok ds2 =>
          rw [h3,h4] at hd2
          cases hd2
          obtain ⟨v,g1,g2⟩ := res1_ok I E hm h1 h3
          obtain ⟨vs,g3,g4,g5⟩ := ih l2 ds2 h2 h4
          refine ⟨v :: vs,?_,by simpa using g4,fun i hi => ?_⟩
          · rw [List.mapM_cons,Sem.run_bind]
            simp only [g1,Result.andThen_ok,Sem.run_bind,g3,Sem.run_pure]
          · cases i with
            | zero => exact g2
            | succ i => simpa using g5 i (by simpa using hi)
    · cases hc

theorem results_run (I : Inv RC β U Fb h w) {tmps : Array Value} (E : EnvOk w (Mk β Fb h) β U tmps e) (hm : m ≤ tmps.size) {fn : Func} {l : List RV} {ds : List D} (hc : cRess P m fn.results.toList = some l) (hd : resL h e l = .ok ds) :
    ∃ v,(results fn tmps).run P w = .ok v w ∧ Rep w (Mk β Fb h) β U v (tupD ds) := by
  obtain ⟨vs,h1,h2,h3⟩ := results_ok I E hm fn.results.toList l ds hc hd
  have hrun : (fn.results.mapM (resF tmps)).run P w = .ok vs.toArray w := by
    rw [Array.mapM_eq_mapM_toList,Sem.run_map,h1]
    rfl
  have htup : vs.length ≠ 1 → Rep w (Mk β Fb h) β U (.tuple vs.toArray) (tupD ds) := by
    intro hne
    match ds,vs,h2,h3 with
    | [],[],_,_ => exact .tup #[] [] rfl (fun i hi => absurd hi (Nat.not_lt_zero _))
    | [d],[v],_,_ => exact (hne rfl).elim
    | d1 :: d2 :: dt,v1 :: v2 :: vt,h2,h3 =>
      refine .tup _ _ (by simpa using h2) (fun i hi => ?_)
      rw [getD_toArray]
      exact h3 i hi
  rw [results_eq,Sem.run_bind]
  simp only [hrun,Result.andThen_ok,Sem.run_pure]
  by_cases h1 : vs.length = 1
  · obtain ⟨v,rfl⟩ := List.length_eq_one_iff.1 h1
    obtain ⟨d,rfl⟩ := List.length_eq_one_iff.1 (h2.symm.trans h1)
    exact ⟨v,rfl,h3 0 (by simp)⟩
  · refine ⟨.tuple vs.toArray,?_,htup h1⟩
    rw [dif_neg (by simpa using h1)]

theorem ObOk.side {U : Us} {w' : World} (hs : w'.heap.size = w.heap.size) (ho : ∀ b : Nat,(∀ d,w.heap[b]? ≠ some (Obj.deferred d)) → w'.heap[b]? = w.heap[b]?) {M : Nat → Prop} {o : Ob} {B : Bk} (H : ObOk RC w M β U o B) : ObOk RC w' M β U o B := by
  have hR : ∀ {V : Us} {v d},Rep w M β V v d → Rep w' M β V v d := fun hr => hr.monoC (Nat.le_of_eq hs.symm) (fun b c T fr e _ => ho b (fun d e2 => by rw [e] at e2; cases e2)) (fun _ _ hm => hm) _ (Sub.refl _) (fun _ _ => rfl)
  cases o with
  | none => trivial
  | row k es =>
    obtain ⟨h1,h2,h3,c,T,h4,h5,h6⟩ := H
    exact ⟨h1,h2,h3,c,T,(ho _ (fun d e2 => by rw [h4] at e2; cases e2)).trans h4,h5,fun i hi j hj => ⟨(h6 i hi j hj).1,hR (h6 i hi j hj).2⟩⟩
  | map es =>
    obtain ⟨ents,clock,h1,hst,h2,h3⟩ := H
    exact ⟨ents,clock,(ho _ (fun d e2 => by rw [h1] at e2; cases e2)).trans h1,hst,h2,fun i hi => ⟨hR (h3 i hi).1,hR (h3 i hi).2⟩⟩
  | mit q =>
    obtain ⟨hq,since,h1⟩ := H
    exact ⟨hq,since,(ho _ (fun d e2 => by rw [h1] at e2; cases e2)).trans h1⟩
  | tob t e =>
    obtain ⟨⟨h1,h2,h3,c,T,h4,h5,h6⟩,c2,h7,h8⟩ := H
    exact ⟨⟨h1,h2,h3,c,T,(ho _ (fun d e2 => by rw [h4] at e2; cases e2)).trans h4,h5,fun i hi j hj => ⟨(h6 i hi j hj).1,hR (h6 i hi j hj).2⟩⟩,c2,(ho _ (fun d e2 => by rw [h4] at e2; cases e2)).trans h7,h8⟩
  | byt es =>
    obtain ⟨⟨h1,h2,h3,c,T,h4,h5,h6⟩,c2,h7⟩ := H
    exact ⟨⟨h1,h2,h3,c,T,(ho _ (fun d e2 => by rw [h4] at e2; cases e2)).trans h4,h5,fun i hi j hj => ⟨(h6 i hi j hj).1,hR (h6 i hi j hj).2⟩⟩,c2,(ho _ (fun d e2 => by rw [h4] at e2; cases e2)).trans h7⟩
  | loop k env ps a b j =>
    obtain ⟨L,h1,h2,h3,h4,h5⟩ := H
    exact ⟨L,(ho _ (fun d e2 => by rw [h1] at e2; cases e2)).trans h1,h2,h3,⟨h4.1,fun t ht => hR (h4.2 t ht)⟩,h5⟩
theorem Inv.side {w' : World} (hs : w'.heap.size = w.heap.size) (ho : ∀ b : Nat,(∀ d,w.heap[b]? ≠ some (Obj.deferred d)) → w'.heap[b]? = w.heap[b]?) (I : Inv RC β U Fb h w) : Inv RC β U Fb h w' :=
  ⟨I.key,fun r hr => by rw [hs]; exact I.lt r hr,fun r => ObOk.side hs ho (I.obj r),I.inj,fun b hb => ⟨by rw [hs]; exact (I.frm b hb).1,(I.frm b hb).2⟩⟩

theorem leaves_ok {fn : Func} {tmps : Array Value} {R : Ending → World → Prop} : ∀ (rs : List Nat) (w : World),rs.Nodup → (∀ r,r ∈ rs → w.heap[r]? = some (.deferred (some []))) →
    (∀ w',w'.os = w.os → w'.tape = w.tape → w'.output = w.output → w'.heap.size = w.heap.size → (∀ b,b ∉ rs → w'.heap[b]? = w.heap[b]?) → ∃ v,(results fn tmps).run P w' = .ok v w' ∧ R (.returned v) w') →
    LeavesInM (FR none) 0 P fn tmps R (rs.map mark1) .returning w := by
  intro rs
  induction rs with
  | nil => intro w _ _ H; exact H w rfl rfl rfl rfl (fun _ _ => rfl)
  | cons r rs ih =>
    intro w hn hr H
    have h1 := hr r (by simp)
    have hn2 := List.nodup_cons.1 hn
    refine ⟨(fun h => by cases h),.inl ⟨r,{ w with heap := w.heap.setIfInBounds r (.deferred none) },rfl,?_,?_⟩⟩
    · simp [Instr.takeDeferred,getObj,setObj,Sem.run,h1]
    · refine ih _ hn2.2 (fun q hq => ?_) (fun w' e1 e2 e3 e4 e5 => ?_)
      · have : r ≠ q := fun e => hn2.1 (e ▸ hq)
        show (w.heap.setIfInBounds r _)[q]? = _
        rw [Array.getElem?_setIfInBounds_ne this]
        exact hr q (by simp [hq])
      · refine H w' e1 e2 e3 (by rw [e4]; simp) (fun b hb => ?_)
        rw [e5 b (fun h => hb (by simp [h]))]
        show (w.heap.setIfInBounds r _)[b]? = _
        rw [Array.getElem?_setIfInBounds_ne (fun e => hb (by simp [e]))]

def CallPost (P : Program) (Fb : Nat → Prop) (β : Nat → Bk) (n : Nat) (h : Hps) (w : World) (d : D) (n' : Nat) (h' : Hps) : Ending → World → Prop := fun en w' =>
  ∃ v β',en = .returned v ∧ Rep w' (Mk β' Fb h') β' (Lt n') v d ∧ Inv (RCc P) β' (Lt n') Fb h' w' ∧ Adv β (Lt n) h w β' (Lt n') h' w'

def tPr : Nat := 45
def tBp : Nat := 41
def tU8 : Nat := 5
structure BldOk (P : Program) : Prop where
  cc : ∃ fn c,P.funcs[ccF]? = some fn ∧ fn.body = some c ∧ fn.name ≠ "runtime.NumGoroutine"
  st : ∃ fn c,P.funcs[stF]? = some fn ∧ fn.body = some c ∧ fn.name ≠ "runtime.NumGoroutine"
  info : ∃ ti,P.info? tBp = some ti ∧ ti.size = 1
  fresh : ∀ (w : World) (b : Nat) (c : Array Value),w.heap[b]? = some (.cells c tPr (0,0)) → c.size = 2 → c.getD 0 undef = .pointer none →
    ∀ w2,(storeVar tBp ⟨b,0,none⟩ (.pointer (some ⟨b,0,none⟩))).run P w = .ok () w2 → Calls P ccF #[.pointer (some ⟨b,0,none⟩)] w fun en w' => en = .returned (.tuple #[]) ∧ w' = w2
  used : ∀ (w : World) (b : Nat) (c : Array Value),w.heap[b]? = some (.cells c tPr (0,0)) → c.size = 2 → c.getD 0 undef = .pointer (some ⟨b,0,none⟩) →
    Calls P ccF #[.pointer (some ⟨b,0,none⟩)] w fun en w' => en = .returned (.tuple #[]) ∧ w' = w
  strn : ∀ (w : World) (b : Nat) (c : Array Value),w.heap[b]? = some (.cells c tPr (0,0)) → c.size = 2 → c.getD 1 undef = .slice none 0 0 →
    Calls P stF #[.pointer (some ⟨b,0,none⟩)] w fun en w' => en = .returned (.string .empty) ∧ w'.os = w.os ∧ w'.tape = w.tape ∧ w'.output = w.output ∧ w'.heap = w.heap
  strs : ∀ (w : World) (b b2 cap : Nat) (c c2 : Array Value) (s : ByteArray),w.heap[b]? = some (.cells c tPr (0,0)) → c.size = 2 → c.getD 1 undef = .slice (some ⟨b2,0,none⟩) s.size cap → b ≠ b2 →
    w.heap[b2]? = some (.cells c2 tU8 (0,0)) → 0 < s.size → s.size ≤ cap → s.size ≤ c2.size → cap ≤ maxLen → (∀ i,i < s.size → c2.getD i undef = .int .u8 (((sb s).getD i 0 : Nat) : Int)) →
    Calls P stF #[.pointer (some ⟨b,0,none⟩)] w fun en w' => en = .returned (.string s) ∧ w'.os = w.os ∧ w'.tape = w.tape ∧ w'.output = w.output ∧ w'.heap.size = w.heap.size ∧ ∀ x,x ≠ b2 → w'.heap[x]? = w.heap[x]?
def XB (P : Program) (X : RunF) : Prop := (∀ e n h,X .bad e n h = .bad) ∧ (∀ j e n h,X (.own j) e n h = .bad ∨ X (.own j) e n h = ownR tPr j e n h) ∧ BldOk P
theorem ofB (l : List Nat) (hl : ∀ x,x ∈ l → x < 256) : ∃ s : ByteArray,sb s = l := by
  refine ⟨⟨(l.map UInt8.ofNat).toArray⟩,?_⟩
  unfold sb
  simp only [List.map_map]
  conv => rhs; rw [← List.map_id l]
  apply List.map_congr_left
  intro x hx
  simp [Nat.mod_eq_of_lt (hl x hx)]
theorem bytesL_inv : ∀ {es : List D} {l : List Nat},bytesL es = .ok l → es = l.map (fun x => .int .u8 (.ofNat x)) ∧ ∀ x,x ∈ l → x < 256
  | [],_,h => by cases h; exact ⟨rfl,fun x hx => by cases hx⟩
  | d :: es,l,h => by
    replace h : byte1 d (bytesL es) = .ok l := h
    cases d with
    | int k i =>
      cases i with
      | negSucc m => cases h
      | ofNat m =>
        cases hb : bytesL es with
        | bad => rw [hb] at h; cases h
        | ok l2 =>
          rw [hb] at h
          replace h : Bool.rec (motive := fun _ => BL) .bad (.ok (m :: l2)) (Bool.and (Nat.beq (kc k) 4) (Nat.blt m 256)) = .ok l := h
          cases hc : Bool.and (Nat.beq (kc k) 4) (Nat.blt m 256) with
          | false => rw [hc] at h; cases h
          | true =>
            rw [hc] at h
            cases h
            obtain ⟨h1,h2⟩ := and2 hc
            obtain ⟨h3,h4⟩ := bytesL_inv hb
            have hk : k = .u8 := by cases k <;> first | rfl | cases h1
            subst hk
            rw [blt_iff] at h2
            refine ⟨by rw [h3]; rfl,fun x hx => ?_⟩
            rcases List.mem_cons.1 hx with rfl | hx
            · exact of_decide_eq_true h2
            · exact h4 x hx
    | _ => cases h
theorem bldP_inv {x : D} {K : Nat → Re} {ex : Ex} {e : Tr} {n : Nat} {h : Hps} (hd : bldP x K = .ok ex e n h) : ∃ r,x = .ptr r 0 0 ∧ K r = .ok ex e n h := by
  cases x with
  | ptr r i j =>
    replace hd : Bool.rec (motive := fun _ => Re) .bad (K r) (Bool.and (Nat.beq i 0) (Nat.beq j 0)) = .ok ex e n h := hd
    cases hb : Bool.and (Nat.beq i 0) (Nat.beq j 0) with
    | false => rw [hb] at hd; cases hd
    | true =>
      rw [hb] at hd
      obtain ⟨h1,h2⟩ := and2 hb
      obtain rfl := beq_eq h1
      obtain rfl := beq_eq h2
      exact ⟨r,rfl,hd⟩
  | _ => cases hd
theorem bldO_inv {T : Nat} {o : Ob} {K : D → D → Re} {ex : Ex} {e : Tr} {n : Nat} {h : Hps} (hd : bldO T o K = .ok ex e n h) : ∃ a b,o = .tob T (.agg [a,b]) ∧ K a b = .ok ex e n h := by
  cases o with
  | tob t y =>
    cases y with
    | agg cs =>
      replace hd : Bool.rec (motive := fun _ => Re) .bad (bld2 cs K) (Nat.beq t T) = .ok ex e n h := hd
      cases hb : Nat.beq t T with
      | false => rw [hb] at hd; cases hd
      | true =>
        rw [hb] at hd
        obtain rfl := beq_eq hb
        match cs,hd with
        | [a,b],hd => exact ⟨a,b,rfl,hd⟩
    | _ => cases hd
  | _ => cases hd
theorem pr_cells {r : Nat} {T : Nat} {a b : D} (I : Inv RC β U Fb h w) (hg : getO h r = .tob T (.agg [a,b])) : ∃ c,w.heap[(β r).b]? = some (.cells c T (0,0)) ∧ c.size = 2 ∧ (β r).k = 2 ∧ Rep w (Mk β Fb h) β U (c.getD 0 undef) a ∧ Rep w (Mk β Fb h) β U (c.getD 1 undef) b := by
  have ho := I.obj r
  rw [hg] at ho
  obtain ⟨⟨h1,h2,h3,c,T2,h4,h5,h6⟩,c2,h7,h8⟩ := ho
  rw [h4] at h7
  cases h7
  exact ⟨c,h4,h8,h1,(h6 0 (by simp) 0 (by simp [cells])).2,(h6 0 (by simp) 1 (by simp [cells])).2⟩
theorem own_args {f : DFn} {X : RunF} {vs : Array Value} {ds : List D} {d : D} {n' : Nat} {h' : Hps} {j : Nat} (hXb : XB P X) (hf : f.body = .own j) (hp : f.ps = [po 0]) (hl : vs.size = ds.length) (hd : callFn X n h ds f = .ok d n' h') :
    ∃ d0 ex e1 n1 h1,ds = [d0] ∧ vs = #[vs.getD 0 undef] ∧ ownR tPr j (argsT [d0] [po 0]) n h = .ok ex e1 n1 h1 ∧ fin f.keep n f.res (.ok ex e1 n1 h1) = .ok d n' h' := by
  obtain ⟨hlen,hd⟩ := ifR_inv (show ifR (Nat.beq (lenL ds) (lenP f.ps)) (fin f.keep n f.res (X f.body (argsT ds f.ps) n h)) = .ok d n' h' from hd)
  have hlen := beq_eq hlen
  rw [lenL_eq,lenP_eq,hp] at hlen
  replace hlen : ds.length = 1 := hlen
  obtain ⟨d0,rfl⟩ := List.length_eq_one_iff.1 hlen
  rw [hf,hp] at hd
  have hvs : vs = #[vs.getD 0 undef] := by
    have hs : vs.size = 1 := hl
    apply Array.ext
    · simpa using hs
    · intro i h3 h4
      match i with
      | 0 => simp [Array.getD,hs]
      | i + 1 => omega
  rcases hXb.2.1 j (argsT [d0] [po 0]) n h with e | e
  · rw [e] at hd
    revert hd
    cases f.keep <;> intro hd <;> cases hd
  · rw [e] at hd
    cases hx : ownR tPr j (argsT [d0] [po 0]) n h with
    | bad =>
      rw [hx] at hd
      revert hd
      cases f.keep <;> intro hd <;> cases hd
    | ok ex e1 n1 h1 => exact ⟨d0,ex,e1,n1,h1,rfl,hvs,hx,by rw [hx] at hd; exact hd⟩
theorem cc_ok {X : RunF} (hXb : XB P X) {vs : Array Value} {ds : List D} {d : D} {n' : Nat} {h' : Hps} (I : Inv (RCc P) β (Lt n) Fb h w) (hl : vs.size = ds.length)
    (hr : ∀ i,i < ds.length → Rep w (Mk β Fb h) β (Lt n) (vs.getD i undef) (ds.getD i .junk)) {kp : Bool} (hd : callFn X n h ds (ccFn kp) = .ok d n' h') : Calls P ccF vs w (CallPost P Fb β n h w d n' h') := by
  obtain ⟨d0,ex,e1,n1,h1,rfl,hvs,ho,hd⟩ := own_args (f := ccFn kp) (j := 0) hXb rfl rfl hl hd
  have hv0 : Rep w (Mk β Fb h) β (Lt n) (vs.getD 0 undef) d0 := hr 0 (by simp)
  replace ho : bldP d0 (fun r => bldO tPr (getO h r) fun a b => bufAddr r n h (argsT [d0] [po 0]) tPr a b) = .ok ex e1 n1 h1 := ho
  obtain ⟨r,rfl,ho⟩ := bldP_inv ho
  obtain ⟨a,b,hg,ho⟩ := bldO_inv ho
  obtain ⟨c,k1,k2,k3,k4,k5⟩ := pr_cells I hg
  have hval : vs.getD 0 undef = .pointer (some ⟨(β r).b,0,none⟩) := by
    generalize vs.getD 0 undef = v at hv0
    cases hv0
    simp
  have hfin : ∀ (n1 : Nat) (h1 : Hps) (w' : World),ex = .ret ∨ ex = .normal → fin kp n (ccFn kp).res (.ok ex e1 n1 h1) = .ok d n' h' → n ≤ n1 → Inv (RCc P) β (Lt n1) Fb h1 w' → Adv β (Lt n) h w β (Lt n1) h1 w' → CallPost P Fb β n h w d n' h' (.returned (.tuple #[])) w' := by
    intro n1 h1 w' hex hf hnn I1 A1
    have hf2 : finishD n n1 h1 (tupD []) = .ok d n' h' ∨ Rd.ok (tupD []) n1 h1 = .ok d n' h' := by
      rcases hex with rfl | rfl
      all_goals
        cases kp with
        | false => exact .inl hf
        | true => exact .inr hf
    obtain ⟨g9,g6,g7,g8⟩ := finish_keep I1 hnn (show Rep w' (Mk β Fb h1) β (Lt n1) (.tuple #[]) (tupD []) from .tup #[] [] rfl (fun i hi => absurd hi (Nat.not_lt_zero _))) hf2
    exact ⟨.tuple #[],β,rfl,g6,g7,⟨A1.os,A1.tape,A1.output,A1.size,Sub.lt g9,fun r hr => rfl,A1.keep,fun b hb ht => A1.shr b hb (g8 b ht)⟩⟩
  rw [hvs,hval]
  cases a with
  | nilp =>
    cases ho
    have e0 : c.getD 0 undef = .pointer none := by
      generalize c.getD 0 undef = v at k4
      cases k4; rfl
    obtain ⟨ti,hti,hsz⟩ := hXb.2.2.info
    have hself : Rep w (Mk β Fb h) β (Lt n) (.pointer (some ⟨(β r).b,0,none⟩)) (.ptr r 0 0) := hval ▸ hv0
    have hst : storeD (aggD .string) ti.size (.ptr r 0 0) n h (.ptr r 0 0) = .ok .junk n (setO h r (.tob tPr (.agg [.ptr r 0 0,b]))) := by
      rw [hsz]
      show storeR false 1 r 0 0 (.ptr r 0 0) n h (getO h r) = _
      rw [hg]
      rfl
    obtain ⟨a1,w2,ha1,hrun,_,I2,A2⟩ := storeD_ok (P := P) (t := tBp) I hti (fun _ => hsz) hself hself hst
    cases ha1
    rw [Ad_lt] at I2 A2
    refine (hXb.2.2.fresh w _ c k1 k2 e0 w2 hrun).mono (fun en w' hp => ?_)
    obtain ⟨rfl,rfl⟩ := hp
    exact hfin (n + 1) _ w' (.inl rfl) hd (Nat.le_succ _) I2 A2
  | ptr r' i j =>
    replace ho : Bool.rec (motive := fun _ => Re) .bad (.ok .ret (argsT [.ptr r 0 0] [po 0]) n h) (Bool.and (Nat.beq r' r) (Bool.and (Nat.beq i 0) (Nat.beq j 0))) = .ok ex e1 n1 h1 := ho
    cases hb : Bool.and (Nat.beq r' r) (Bool.and (Nat.beq i 0) (Nat.beq j 0)) with
    | false => rw [hb] at ho; cases ho
    | true =>
      rw [hb] at ho
      cases ho
      obtain ⟨q1,q2⟩ := and2 hb
      obtain ⟨q2,q3⟩ := and2 q2
      obtain rfl := beq_eq q1
      obtain rfl := beq_eq q2
      obtain rfl := beq_eq q3
      have e0 : c.getD 0 undef = .pointer (some ⟨(β r').b,0,none⟩) := by
        generalize c.getD 0 undef = v at k4
        cases k4
        simp
      refine (hXb.2.2.used w _ c k1 k2 e0).mono (fun en w' hp => ?_)
      obtain ⟨rfl,rfl⟩ := hp
      exact hfin n _ w' (.inl rfl) hd (Nat.le_refl _) I (Adv.refl _ _ _ _)
  | _ => cases ho
theorem st_ok {X : RunF} (hXb : XB P X) {vs : Array Value} {ds : List D} {d : D} {n' : Nat} {h' : Hps} (I : Inv (RCc P) β (Lt n) Fb h w) (hl : vs.size = ds.length)
    (hr : ∀ i,i < ds.length → Rep w (Mk β Fb h) β (Lt n) (vs.getD i undef) (ds.getD i .junk)) {kp : Bool} (hd : callFn X n h ds (stFn kp) = .ok d n' h') : Calls P stF vs w (CallPost P Fb β n h w d n' h') := by
  obtain ⟨d0,ex,e1,n1,h1,rfl,hvs,ho,hd⟩ := own_args (f := stFn kp) (j := 1) hXb rfl rfl hl hd
  have hv0 : Rep w (Mk β Fb h) β (Lt n) (vs.getD 0 undef) d0 := hr 0 (by simp)
  replace ho : bldP d0 (fun r => bldO tPr (getO h r) fun _ b => strS (po 1) (argsT [d0] [po 0]) n h b) = .ok ex e1 n1 h1 := ho
  obtain ⟨r,rfl,ho⟩ := bldP_inv ho
  obtain ⟨a,b,hg,ho⟩ := bldO_inv ho
  obtain ⟨c,k1,k2,k3,k4,k5⟩ := pr_cells I hg
  have hval : vs.getD 0 undef = .pointer (some ⟨(β r).b,0,none⟩) := by
    generalize vs.getD 0 undef = v at hv0
    cases hv0
    simp
  have hfin : ∀ (s : ByteArray) (h1 : Hps) (w' : World),fin kp n (stFn kp).res (.ok .ret (putT (po 1) (.str (sb s)) (argsT [.ptr r 0 0] [po 0])) n h1) = .ok d n' h' → Inv (RCc P) β (Lt n) Fb h1 w' → Adv β (Lt n) h w β (Lt n) h1 w' → CallPost P Fb β n h w d n' h' (.returned (.string s)) w' := by
    intro s h1 w' hf I1 A1
    have hf2 : finishD n n h1 (tupD [.str (sb s)]) = .ok d n' h' ∨ Rd.ok (tupD [.str (sb s)]) n h1 = .ok d n' h' := by
      cases kp with
      | false => exact .inl hf
      | true => exact .inr hf
    obtain ⟨g9,g6,g7,g8⟩ := finish_keep I1 (Nat.le_refl _) (show Rep w' (Mk β Fb h1) β (Lt n) (.string s) (tupD [.str (sb s)]) from .str s) hf2
    exact ⟨.string s,β,rfl,g6,g7,⟨A1.os,A1.tape,A1.output,A1.size,Sub.lt g9,fun r hr => rfl,A1.keep,fun b hb ht => A1.shr b hb (g8 b ht)⟩⟩
  rw [hvs,hval]
  cases b with
  | nils =>
    cases ho
    have e0 : c.getD 1 undef = .slice none 0 0 := by
      generalize c.getD 1 undef = v at k5
      cases k5; rfl
    refine (hXb.2.2.strn w _ c k1 k2 e0).mono (fun en w' hp => ?_)
    obtain ⟨rfl,f1,f2,f3,f4⟩ := hp
    have A1 : Adv β (Lt n) h w β (Lt n) h w' := ⟨f1,f2,f3,by rw [f4]; exact Nat.le_refl _,Sub.refl _,fun _ _ => rfl,fun b hb ht => by rw [f4],fun b hb ht => ht⟩
    exact hfin .empty _ w' hd (I.step (RCc P) A1 (fun x hx => .inl ⟨rfl,by rw [f4]⟩) I.inj (fun b hb => (I.frm b hb).2)) A1
  | ms k q off len full =>
    replace ho : Bool.rec (motive := fun _ => Re) .bad (strO (po 1) (argsT [.ptr r 0 0] [po 0]) n h q len (getO h q)) (Bool.and (Nat.beq k 1) (Bool.and (Nat.beq off 0) (Bool.not full))) = .ok ex e1 n1 h1 := ho
    cases hb : Bool.and (Nat.beq k 1) (Bool.and (Nat.beq off 0) (Bool.not full)) with
    | false => rw [hb] at ho; cases ho
    | true =>
      rw [hb] at ho
      obtain ⟨q1,q2⟩ := and2 hb
      obtain ⟨q2,q3⟩ := and2 q2
      obtain rfl := beq_eq q1
      obtain rfl := beq_eq q2
      have hfull : full = false := by cases full <;> first | rfl | cases q3
      subst hfull
      cases hq : getO h q with
      | byt es =>
        rw [hq] at ho
        replace ho : Bool.rec (motive := fun _ => Re) .bad (strB (po 1) (argsT [.ptr r 0 0] [po 0]) n (delO h q) (bytesL es)) (Bool.and (Nat.beq len (lenL es)) (Nat.blt 0 len)) = .ok ex e1 n1 h1 := ho
        cases hb2 : Bool.and (Nat.beq len (lenL es)) (Nat.blt 0 len) with
        | false => rw [hb2] at ho; cases ho
        | true =>
          rw [hb2] at ho
          obtain ⟨p1,p2⟩ := and2 hb2
          obtain rfl := beq_eq p1
          rw [blt_iff,lenL_eq] at p2
          have p2 := of_decide_eq_true p2
          cases hby : bytesL es with
          | bad => rw [hby] at ho; cases ho
          | ok l =>
            rw [hby] at ho
            obtain ⟨m1,m2⟩ := bytesL_inv hby
            obtain ⟨s,rfl⟩ := ofB l m2
            cases ho
            have hsl : (sb s).length = s.size := by unfold sb; rw [List.length_map,Array.length_toList]; rfl
            have hel : es.length = s.size := by rw [m1,List.length_map,hsl]
            have hoq := I.obj q
            rw [hq] at hoq
            obtain ⟨⟨o1,o2,o3,c2,T2,o4,o5,o6⟩,c3,o7⟩ := hoq
            rw [o4] at o7
            cases o7
            have hne : (β r).b ≠ (β q).b := by
              intro e
              have := I.inj r q (by rw [hg]; exact fun h => by cases h) (by rw [hq]; exact fun h => by cases h) e
              subst this
              rw [hg] at hq
              cases hq
            obtain ⟨cap,e0,e1,e2⟩ : ∃ cap,c.getD 1 undef = .slice (some ⟨(β q).b,0,none⟩) s.size cap ∧ s.size ≤ cap ∧ cap ≤ maxLen := by
              rw [lenL_eq,hel] at k5
              generalize c.getD 1 undef = v at k5
              obtain ⟨kk,hkk⟩ : ∃ kk,kk = 1 := ⟨1,rfl⟩
              rw [← hkk] at k5
              cases k5 with
              | ms a0 _ _ cc _ hr ha hl hf hg' hC hx =>
                refine ⟨cc,?_,hl,hx⟩
                rcases ha with e | ⟨e,_,_⟩
                · rw [e]; simp
                · omega
            refine (hXb.2.2.strs w _ _ cap c c2 s k1 k2 e0 hne o4 (by omega) e1 (by omega) e2 (fun i hi => ?_)).mono (fun en w' hp => ?_)
            · have h9 := (o6 i (by omega) 0 (by omega)).2
              rw [Nat.mul_one,Nat.add_zero] at h9
              have h10 : (cells (es.getD i .junk)).getD 0 .junk = .int .u8 (.ofNat ((sb s).getD i 0)) := by
                rw [m1]
                have : i < (sb s).length := by omega
                simp [List.getD_eq_getElem?_getD,this,cells]
              rw [h10] at h9
              generalize c2.getD i undef = v at h9
              cases h9
              rfl
            · obtain ⟨rfl,f1,f2,f3,f4,f5⟩ := hp
              have hT : ∀ b,Tk β (delO h q) b → Tk β h b := fun b ht => Tk_del ht
              have A1 : Adv β (Lt n) h w β (Lt n) (delO h q) w' := ⟨f1,f2,f3,Nat.le_of_eq f4.symm,Sub.refl _,fun _ _ => rfl,fun b hb ht => f5 b (fun e => ht ⟨q,(by rw [hq]; exact fun h => (by cases h)),e.symm⟩),fun b hb ht => hT b ht⟩
              refine hfin s _ w' hd (I.step (RCc P) A1 (fun x hx => .inl ?_) (fun x y hx hy => ?_) (fun b hb ht => (I.frm b hb).2 (hT b ht))) A1
              · rw [getO_delO] at hx ⊢
                by_cases e : x = q
                · rw [if_pos e] at hx; exact absurd rfl hx
                · rw [if_neg e] at hx ⊢
                  exact ⟨rfl,f5 _ (fun e2 => e (I.inj x q hx (by rw [hq]; exact fun h => by cases h) e2))⟩
              · rw [getO_delO] at hx hy
                by_cases e : x = q
                · rw [if_pos e] at hx; exact absurd rfl hx
                · rw [if_neg e] at hx
                  by_cases e2 : y = q
                  · rw [if_pos e2] at hy; exact absurd rfl hy
                  · rw [if_neg e2] at hy; exact I.inj x y hx hy
      | _ => rw [hq] at ho; cases ho
  | _ => cases ho

theorem callFn_ok {X : RunF} (hX : CodeOk P X) (hXb : XB P X) {f : FuncId} {vs : Array Value} {ds : List D} {d : D} {n' : Nat} {h' : Hps} (I : Inv (RCc P) β (Lt n) Fb h w) (hl : vs.size = ds.length)
    (hr : ∀ i,i < ds.length → Rep w (Mk β Fb h) β (Lt n) (vs.getD i undef) (ds.getD i .junk)) (hd : callFn X n h ds (cFk K P f) = .ok d n' h') :
    ∃ fn c,P.funcs[f]? = some fn ∧ fn.body = some c ∧ fn.name ≠ "runtime.NumGoroutine" ∧ ∀ ro,CallsIn (FR ro) 0 P f vs w (CallPost P Fb β n h w d n' h') := by
  by_cases hfa : f = ccF
  · subst hfa
    rw [show cFk K P ccF = ccFn (K ccF) from if_pos rfl] at hd
    obtain ⟨fn,c,g1,g2,g3⟩ := hXb.2.2.cc
    refine ⟨fn,c,g1,g2,g3,fun ro => ?_⟩
    show CallsIn Fence.wide 0 P ccF vs w _
    exact callsIn_wide.2 (cc_ok hXb I hl hr hd)
  by_cases hfb : f = stF
  · subst hfb
    rw [show cFk K P stF = stFn (K stF) from (if_neg hfa).trans (if_pos rfl)] at hd
    obtain ⟨fn,c,g1,g2,g3⟩ := hXb.2.2.st
    refine ⟨fn,c,g1,g2,g3,fun ro => ?_⟩
    show CallsIn Fence.wide 0 P stF vs w _
    exact callsIn_wide.2 (st_ok hXb I hl hr hd)
  obtain ⟨hlen,hd⟩ := ifR_inv (show ifR (Nat.beq (lenL ds) (lenP (cFk K P f).ps)) (fin (cFk K P f).keep n (cFk K P f).res (X (cFk K P f).body (argsT ds (cFk K P f).ps) n h)) = .ok d n' h' from hd)
  have hlen := beq_eq hlen
  rw [lenL_eq,lenP_eq] at hlen
  cases hx : X (cFk K P f).body (argsT ds (cFk K P f).ps) n h with
  | bad =>
    rw [hx] at hd
    revert hd
    cases (cFk K P f).keep <;> intro hd <;> cases hd
  | ok x e1 n1 h1 =>
    rw [hx] at hd
    have hbad : cFk K P f ≠ noFn := by
      intro e2
      rw [e2] at hx
      rw [show (noFn).body = DCode.bad from rfl,hXb.1] at hx
      cases hx
    cases hf : P.funcs[f]? with
    | none => exact absurd (show cFk K P f = noFn by simp [cFk,hf,hfa,hfb]) hbad
    | some fn =>
      have hcf : cFk K P f = cFunc (K f) P fn := by simp [cFk,hf,hfa,hfb]
      rw [hcf] at hx hd hbad hlen
      cases hb : fn.body with
      | none => exact absurd (by unfold cFunc; simp only [hb]) hbad
      | some b =>
      cases hres : cRess P fn.ntmps fn.results.toList with
      | none => exact absurd (by unfold cFunc; simp only [hb,hres]) hbad
      | some l =>
        by_cases hc : fn.ntmps < 2 ^ 20 ∧ fn.name ≠ "runtime.NumGoroutine" ∧ fn.params.size + fn.nfree ≤ fn.ntmps
        · have hcf2 : cFunc (K f) P fn = ⟨cCode P fn.ntmps b,(List.range (fn.params.size + fn.nfree)).map po,l,K f⟩ := by unfold cFunc; simp only [hb,hres]; exact if_pos hc
          rw [hcf2] at hx hd hlen
          obtain ⟨hc1,hc2,hc3⟩ := hc
          refine ⟨fn,b,rfl,hb,hc2,fun ro => ?_⟩
          have hlen2 : ds.length = fn.params.size + fn.nfree := by simpa using hlen
          show CallsIn (FR none) 0 P f vs w _
          refine callsIn_of_wp_marks hf hb trivial ?_
          refine hX (s0 := w.heap.size) (ro := none) (m := fn.ntmps) ⟨I,args_env hl hr hlen2 hc3 hc1,by simp; omega,⟨[],rfl,List.nodup_nil,(fun r hr => by cases hr)⟩,(fun l hl => by cases hl),Nat.le_refl _⟩ hx (fun β' a' w' S A => ?_)
          have key : ∀ {ds2},resL h1 e1 l = .ok ds2 → finishD n n1 h1 (tupD ds2) = .ok d n' h' ∨ Rd.ok (tupD ds2) n1 h1 = .ok d n' h' → LeavesInM (FR none) 0 P fn a'.tmps (CallPost P Fb β n h w d n' h') a'.defers .returning w' := by
            intro ds2 hds hfin
            obtain ⟨rs,g1,g2,g3⟩ := S.dfr
            rw [g1]
            refine leaves_ok rs w' g2 (fun r hr => (g3 r hr).2.1) (fun w2 e1 e2 e3 e4 e5 => ?_)
            have hside : ∀ b : Nat,(∀ d,w'.heap[b]? ≠ some (Obj.deferred d)) → w2.heap[b]? = w'.heap[b]? := fun b hb => e5 b (fun hin => hb _ (g3 b hin).2.1)
            have I2 := Inv.side e4 hside S.inv
            have E2 : EnvOk w2 (Mk β' Fb h1) β' (Lt n1) a'.tmps _ := ⟨S.env.1,fun t ht => (S.env.2 t ht).monoC (Nat.le_of_eq e4.symm) (fun b c T fr e _ => hside b (fun d e2 => by rw [e] at e2; cases e2)) (fun _ _ hm => hm) _ (Sub.refl _) (fun _ _ => rfl)⟩
            obtain ⟨v,g4,g5⟩ := results_run I2 E2 S.sz hres hds
            have hnn : n ≤ n1 := by
              rcases Nat.lt_or_ge n1 n with h | h
              · exact absurd (A.num n1 h) (Nat.lt_irrefl _)
              · exact h
            obtain ⟨g9,g6,g7,g8⟩ := finish_keep I2 hnn g5 hfin
            refine ⟨v,g4,v,β',rfl,g6,g7,⟨e1.trans A.os,e2.trans A.tape,e3.trans A.output,e4 ▸ A.size,Sub.lt g9,A.same,fun b hb hn => ?_,fun b hb ht => A.shr b hb (g8 b ht)⟩⟩
            rw [e5 b (fun hin => by have := (g3 b hin).1; omega)]
            exact A.keep b hb hn
          cases hk : K f with
          | false =>
            rw [hk] at hd
            have hd : finishE n l e1 n1 h1 x = .ok d n' h' := hd
            cases x with
            | exit i => cases hd
            | normal =>
              have hd2 : finishL n n1 h1 (resL h1 e1 l) = .ok d n' h' := hd
              cases hds : resL h1 e1 l with
              | bad => rw [hds] at hd2; cases hd2
              | ok ds2 => rw [hds] at hd2; exact key hds (.inl hd2)
            | ret =>
              have hd2 : finishL n n1 h1 (resL h1 e1 l) = .ok d n' h' := hd
              cases hds : resL h1 e1 l with
              | bad => rw [hds] at hd2; cases hd2
              | ok ds2 => rw [hds] at hd2; exact key hds (.inl hd2)
          | true =>
            rw [hk] at hd
            have hd : finKE l e1 n1 h1 x = .ok d n' h' := hd
            cases x with
            | exit i => cases hd
            | normal =>
              have hd2 : finKL n1 h1 (resL h1 e1 l) = .ok d n' h' := hd
              cases hds : resL h1 e1 l with
              | bad => rw [hds] at hd2; cases hd2
              | ok ds2 => rw [hds] at hd2; exact key hds (.inr hd2)
            | ret =>
              have hd2 : finKL n1 h1 (resL h1 e1 l) = .ok d n' h' := hd
              cases hds : resL h1 e1 l with
              | bad => rw [hds] at hd2; cases hd2
              | ok ds2 => rw [hds] at hd2; exact key hds (.inr hd2)
        · exact absurd (by unfold cFunc; simp only [hb,hres]; exact if_neg hc) hbad
end
end Go.Proofs.YtpbpmpabndgeeaaDoor
