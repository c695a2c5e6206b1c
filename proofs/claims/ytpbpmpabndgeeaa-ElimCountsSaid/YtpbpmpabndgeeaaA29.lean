/- From a statement's words to data: what an argument reads as, is data; what a run over data tells, the statement says. No condition. -/
import Derived.Test.YtpbpmpabndgeeaaA27
import Derived.ProofKit
import Derived.Carry
import Derived.ReadAgain

/- The run without a bound on its steps: the limit of all bounded runs,and its equations. No condition. -/
set_option linter.unusedSimpArgs false
set_option linter.unusedVariables false
namespace Go.Proofs.Ytpbpmpabndgeeaa
open Go

def Le (X Y:RunF):Prop:=∀ c e n h,X c e n h ≠ .bad→Y c e n h=X c e n h
theorem Le.refl (X:RunF):Le X X:=fun _ _ _ _ _=>rfl
theorem Le.trans {X Y Z:RunF} (a:Le X Y) (b:Le Y Z):Le X Z:=fun c e n h hb=>by
  have h1:=a c e n h hb
  rw [b c e n h (by rw [h1]; exact hb),h1]

open Classical in
noncomputable def lim (Xs:Nat→RunF):RunF:=fun c e n h=>if H:∃ f,Xs f c e n h ≠ .bad then Xs (Classical.choose H) c e n h else .bad

section
variable {Xs:Nat→RunF}

def Chain (Xs:Nat→RunF):Prop:=∀ i j,i≤j→Le (Xs i) (Xs j)
theorem lim_le (hc:Chain Xs) (i:Nat):Le (Xs i) (lim Xs):=by
  intro c e n h hb
  have H:∃ f,Xs f c e n h ≠ .bad:=⟨i,hb⟩
  unfold lim
  rw [dif_pos H]
  have h1:=Classical.choose_spec H
  rcases Nat.le_total i (Classical.choose H) with hl | hl
  · exact hc _ _ hl c e n h hb
  · exact (hc _ _ hl c e n h h1).symm
theorem lim_ev (hc:Chain Xs) {c:DCode} {e:Tr} {n:Nat} {h:Hps} (hb:lim Xs c e n h ≠ .bad):∃ i,∀ j,i≤j→Xs j c e n h=lim Xs c e n h:=by
  by_cases H:∃ f,Xs f c e n h ≠ .bad
  · obtain ⟨i,hi⟩:=H
    exact ⟨i,fun j hj => ((hc _ _ hj c e n h hi).trans (lim_le hc i c e n h hi).symm)⟩
  · exact absurd (by unfold lim; rw [dif_neg H]) hb

structure Cn {α:Type} (bad:α) (Φ:RunF→α):Prop where
  mono:∀ {X Y},Le X Y→Φ X≠bad→Φ Y=Φ X
  cont:∀ {Xs},Chain Xs→Φ (lim Xs)≠bad→∃ i,∀ j,i≤j→Φ (Xs j)=Φ (lim Xs)

theorem Cn.const {α:Type} {bad:α} (a:α):Cn bad fun _=>a:=⟨fun _ _=>rfl,fun _ _=>⟨0,fun _ _=>rfl⟩⟩
theorem Cn.app (c:DCode) (e:Tr) (n:Nat) (h:Hps):Cn Re.bad fun X=>X c e n h:=⟨fun l hb=>l c e n h hb,fun hc hb=>lim_ev hc hb⟩
theorem Cn.re {α:Type} {bad:α} {Φ:RunF→Re} {Ψ:Ex→Tr→Nat→Hps→RunF→α} (h1:Cn .bad Φ) (h2:∀ x e n h,Cn bad (Ψ x e n h)) :
    Cn bad fun X=>match Φ X with | .ok x e n h=>Ψ x e n h X | .bad=>bad:=by
  refine ⟨fun {X Y} l hb=>?_,fun {Xs} hc hb=>?_⟩
  · cases hx:Φ X with
    | bad=>rw [hx] at hb; exact absurd rfl hb
    | ok x e n h =>
      have hy:=h1.mono l (by rw [hx]; exact fun h=>by cases h)
      rw [hx] at hy hb
      simp only [hy]
      exact (h2 x e n h).mono l hb
  · cases hx:Φ (lim Xs) with
    | bad=>rw [hx] at hb; exact absurd rfl hb
    | ok x e n h =>
      obtain ⟨i,hi⟩:=h1.cont hc (by rw [hx]; exact fun h=>by cases h)
      rw [hx] at hi hb
      obtain ⟨k,hk⟩ := (h2 x e n h).cont hc hb
      exact ⟨i+k,fun j hj=>by simp only [hi j (by omega)]; exact hk j (by omega)⟩
theorem Cn.rd {α:Type} {bad:α} {Φ:RunF→Rd} {Ψ:D→Nat→Hps→RunF→α} (h1:Cn .bad Φ) (h2:∀ d n h,Cn bad (Ψ d n h)) :
    Cn bad fun X=>match Φ X with | .ok d n h=>Ψ d n h X | .bad=>bad:=by
  refine ⟨fun {X Y} l hb=>?_,fun {Xs} hc hb=>?_⟩
  · cases hx:Φ X with
    | bad=>rw [hx] at hb; exact absurd rfl hb
    | ok d n h =>
      have hy:=h1.mono l (by rw [hx]; exact fun h=>by cases h)
      rw [hx] at hy hb
      simp only [hy]
      exact (h2 d n h).mono l hb
  · cases hx:Φ (lim Xs) with
    | bad=>rw [hx] at hb; exact absurd rfl hb
    | ok d n h =>
      obtain ⟨i,hi⟩:=h1.cont hc (by rw [hx]; exact fun h=>by cases h)
      rw [hx] at hi hb
      obtain ⟨k,hk⟩ := (h2 d n h).cont hc hb
      exact ⟨i+k,fun j hj=>by simp only [hi j (by omega)]; exact hk j (by omega)⟩
theorem Cn.ite {α:Type} {bad:α} {Φ Ψ:RunF→α} (b:Bool) (h1:Cn bad Φ) (h2:Cn bad Ψ):Cn bad fun X=>Bool.rec (motive:=fun _=>α) (Φ X) (Ψ X) b:=by
  cases b with
  | false=>exact h1
  | true=>exact h2
theorem Cn.cast {α:Type} {bad:α} {Φ Ψ:RunF→α} (h:Cn bad Φ) (e:∀ X,Ψ X=Φ X):Cn bad Ψ := (funext e:Ψ=Φ) ▸ h

section
variable (F:Nat→DFn)
theorem cn_finish (n0:Nat) (rv:List RV) {Φ:RunF→Re} (h:Cn .bad Φ):Cn Rd.bad fun X=>finish n0 rv (Φ X) :=
  (Cn.re (Ψ:=fun x e n h _=>finishE n0 rv e n h x) h (fun _ _ _ _=>Cn.const _)).cast fun X=>by unfold finish; cases Φ X <;> rfl
theorem cn_finK (n0:Nat) (rv:List RV) {Φ:RunF→Re} (h:Cn .bad Φ):Cn Rd.bad fun X=>finK n0 rv (Φ X) :=
  (Cn.re (Ψ:=fun x e n h _=>finKE n0 rv e n h x) h (fun _ _ _ _=>Cn.const _)).cast fun X=>by unfold finK; cases Φ X <;> rfl
theorem cn_fin (kp:Bool) (n0:Nat) (rv:List RV) {Φ:RunF→Re} (h:Cn .bad Φ):Cn Rd.bad fun X=>fin kp n0 rv (Φ X):=by
  cases kp with
  | false=>exact cn_finish n0 rv h
  | true=>exact cn_finK n0 rv h
theorem cn_callFn (n:Nat) (h:Hps) (args:List D) (f:DFn):Cn Rd.bad fun X=>callFn X n h args f:=by
  unfold callFn
  cases Nat.beq (lenL args) (lenP f.ps) with
  | false=>exact Cn.const _
  | true=>exact cn_fin f.keep n f.res (Cn.app f.body (argsT args f.ps) n h)
theorem cn_round (r n:Nat) (h:Hps) (args:List D) (o:Ob):Cn Rd.bad fun X=>round X r n h args o:=by
  cases o with
  | loop k env ps a b j =>
    show Cn Rd.bad fun X=>ifR (isSkip j) (begRound X r k n h env ps a b (putAll ps args env))
    cases isSkip j with
    | false=>exact Cn.const _
    | true =>
      show Cn Rd.bad fun X=>begRound X r k n h env ps a b (putAll ps args env)
      cases putAll ps args env with
      | bad=>exact Cn.const _
      | ok x0 e0 n0 h0 =>
        show Cn Rd.bad fun X=>midRound X r k env ps a b (X a e0 n (delO h r))
        refine (Cn.re (Ψ:=fun x e n h X=>match x with | .normal=>lastRound r k env ps a b (X b e n h) | _ => .bad) (Cn.app a e0 n (delO h r)) (fun x e n h=>?_)).cast fun X=>by unfold midRound; cases X a e0 n (delO h r) <;> rfl
        cases x with
        | normal=>exact (Cn.re (Ψ:=fun x e n h _=>endRound r k env ps a b n h x) (Cn.app b e n h) (fun _ _ _ _=>Cn.const _)).cast fun X=>by simp only [lastRound]; cases X b e n h <;> rfl
        | exit i=>exact Cn.const _
        | ret=>exact Cn.const _
  | _=>exact Cn.const _
theorem cn_callX (n:Nat) (h:Hps) (f:D) (args:List D):Cn Rd.bad fun X=>callX F X n h f args:=by
  cases f with
  | fn g a c=>exact cn_callFn _ _ _ _
  | yld r=>exact cn_round _ _ _ _ _
  | _=>exact Cn.const _
theorem cn_after {K:RunF→Tr→Nat→Hps→Re} (hK:∀ e n h,Cn Re.bad fun X=>K X e n h) (e:Tr) (dst:Option Po) {Φ:RunF→Rd} (h:Cn .bad Φ):Cn Re.bad fun X=>afterOp (K X) e dst (Φ X) :=
  (Cn.rd (Ψ:=fun d n h X=>K X (putE e dst d) (n+1) h) h (fun _ _ _=>hK _ _ _)).cast fun X=>by unfold afterOp; cases Φ X <;> rfl
theorem cn_subC (R:List Nat) (n:Nat) (h:Hps) (f:D) (args:List D):Cn Rd.bad fun X=>subC (callX F X) R n h f args :=
  (Cn.rd (Ψ:=fun d n1 g _=>ifR (Bool.and (allN (fun r=>Nat.ble r n) R) (Bool.and (inD (fun r=>memN r R) 20 f) (Bool.and (allL (inD (fun r=>memN r R) 20) args) (Bool.and (inH (fun r=>memN r R) (subH R h)) (Bool.and (inD (ofR R (n+1)) 20 d) (inH (ofR R (n+1)) g)))))) (.ok d n1 (appH g (remH R h)))) (cn_callX F (n+1) (subH R h) f args) (fun _ _ _=>Cn.const _)).cast fun X => (by show pureC R n h f args (callX F X (n+1) (subH R h) f args)=_; unfold pureC; cases callX F X (n+1) (subH R h) f args <;> rfl)
theorem cn_opC (e:Tr) (n:Nat) (h:Hps) (o:DOp):Cn Rd.bad fun X=>opC (callX F X) e n h o:=by
  cases o with
  | call f args=>exact Cn.ite (soloB (evs e args) (ev e f)) (cn_callX F _ _ _ _) (cn_subC F [] _ _ _ _)
  | inv tb x args =>
    show Cn Rd.bad fun X=>invC (callX F X) n h tb (evs e args) (ev e x)
    cases ev e x with
    | iface t d =>
      show Cn Rd.bad fun X=>invM (callX F X) n h d (evs e args) (mthF tb t)
      cases mthF tb t with
      | none=>exact Cn.const _
      | some f m =>
        show Cn Rd.bad fun X=>invR (callX F X) n h f (evs e args) (recvD h d m)
        cases recvD h d m with
        | bad=>exact Cn.const _
        | ok d1 _ _=>exact cn_callX F (n+1) h (.fn f [] []) (d1::evs e args)
    | _=>exact Cn.const _
  | _=>exact Cn.const _
theorem cn_opP (b:Bool) (e:Tr) (n:Nat) (h:Hps) (o:DOp):Cn Rd.bad fun X=>opP (callX F X) b e n h o:=by
  cases o with
  | call f args =>
    cases b with
    | true=>exact cn_callX F (n+1) h (ev e f) (evs e args)
    | false =>
      show Cn Rd.bad fun X=>apartC (callX F X) n h (ev e f) (evs e args) (rfL (rd 20) (evs e args))
      have hsub:∀ R,Cn Rd.bad fun X=>subC (callX F X) R n h (ev e f) (evs e args):=fun R =>
        (Cn.rd (Ψ:=fun d n1 g _=>ifR (Bool.and (allN (fun r=>Nat.ble r n) R) (Bool.and (inD (fun r=>memN r R) 20 (ev e f)) (Bool.and (allL (inD (fun r=>memN r R) 20) (evs e args)) (Bool.and (inH (fun r=>memN r R) (subH R h)) (Bool.and (inD (ofR R (n+1)) 20 d) (inH (ofR R (n+1)) g)))))) (.ok d n1 (appH g (remH R h)))) (cn_callX F (n+1) (subH R h) (ev e f) (evs e args)) (fun _ _ _=>Cn.const _)).cast fun X => (by show pureC R n h (ev e f) (evs e args) (callX F X (n+1) (subH R h) (ev e f) (evs e args))=_; unfold pureC; cases callX F X (n+1) (subH R h) (ev e f) (evs e args) <;> rfl)
      cases rfL (rd 20) (evs e args) with
      | cons r rs=>exact hsub _
      | nil =>
        show Cn Rd.bad fun X=>capC (callX F X) n h (ev e f) (evs e args) (rd 20 (ev e f))
        cases rd 20 (ev e f) with
        | nil=>exact hsub []
        | cons r rs=>exact (Cn.rd (Ψ:=fun d n1 g _=>match g with | []=>ifR (Bool.and (clo 20 (frz h 0 20 (ev e f))) (Bool.and (allL (clo 20) (mapL (frz h 0 20) (evs e args))) (bare 20 d))) (.ok d n1 h) | _::_ => .bad) (cn_callX F (n+1) [] (frz h 0 20 (ev e f)) (mapL (frz h 0 20) (evs e args))) (fun _ _ _=>Cn.const _)).cast fun X => (by show snapC n h (frz h 0 20 (ev e f)) (mapL (frz h 0 20) (evs e args)) (callX F X (n+1) [] (frz h 0 20 (ev e f)) (mapL (frz h 0 20) (evs e args)))=_; unfold snapC; cases callX F X (n+1) [] (frz h 0 20 (ev e f)) (mapL (frz h 0 20) (evs e args)) <;> rfl)
  | _=>exact Cn.const _
theorem cn_runOps:∀ (l:List DOper) (e:Tr) (n:Nat) (h:Hps),Cn Re.bad fun X=>runOps (callX F X) l e n h:=by
  intro l
  induction l with
  | nil=>intro e n h; exact Cn.const _
  | cons o l ih =>
    intro e n h
    obtain ⟨dst,g,o⟩:=o
    show Cn Re.bad fun X=>stepW (callX F X) (runOps (callX F X) l) e n h dst o (want e g)
    cases want e g with
    | bad=>exact Cn.const _
    | ok b=>exact Cn.ite b (ih _ _ _) (cn_after (K:=fun X=>runOps (callX F X) l) ih e dst (cn_opC F e n h o))
theorem cn_runDraw (sd:Nat):∀ (l:List DOper) (un:List (List Nat)) (bar:List Bool) (ts:List TW) (e:Tr) (n:Nat) (h:Hps),Cn Re.bad fun X=>runDraw sd (callX F X) l un bar ts e n h:=by
  intro l
  induction l with
  | nil=>intro un bar ts e n h; exact Cn.const _
  | cons o l ih =>
    intro un bar ts e n h
    cases un with
    | nil=>exact Cn.const _
    | cons u ut =>
    cases bar with
    | nil=>exact Cn.const _
    | cons b bt =>
      obtain ⟨dst,g,o⟩:=o
      show Cn Re.bad fun X=>stepQ sd (callX F X) (runDraw sd (callX F X) l ut bt) b ts e n h u dst o (want e g)
      cases want e g with
      | bad=>exact Cn.const _
      | ok t =>
        refine Cn.ite t (ih _ _ _ _ _ _) ?_
        exact (Cn.rd (Ψ:=fun d n1 h1 X=>Bool.rec (motive:=fun _=>Re) .bad (runDraw sd (callX F X) l ut bt ((touchR e n o h h1,rdo o)::ts) (putE e dst d) (n+sd) h1) (Bool.and (Nat.blt n1 (n+sd)) (apartAll (touchR e n o h h1) (writR o (touchR e n o h h1) h h1) ts u))) (cn_opP F b e n h o) (fun _ _ _=>Cn.ite _ (Cn.const _) (ih _ _ _ _ _ _))).cast fun X => (by unfold drawK; cases opP (callX F X) b e n h o <;> rfl)
theorem cn_seqR (b:DCode) {Φ:RunF→Re} (h:Cn .bad Φ):Cn Re.bad fun X=>seqR X b (Φ X):=by
  refine (Cn.re (Ψ:=fun x e n h X=>seqE X b e n h x) h (fun x e n h=>?_)).cast fun X=>by unfold seqR; cases Φ X <;> rfl
  cases x with
  | normal=>exact Cn.app _ _ _ _
  | exit i=>exact Cn.const _
  | ret=>exact Cn.const _
theorem cn_step (c:DCode) (e:Tr) (n:Nat) (h:Hps):Cn Re.bad fun X=>step F X c e n h:=by
  cases c with
  | skip=>exact Cn.const _
  | ret=>exact Cn.const _
  | bad=>exact Cn.const _
  | exit i=>exact Cn.const _
  | seq a b=>exact cn_seqR b (Cn.app a e n h)
  | cond c a b =>
    show Cn Re.bad fun X=>condR X a b e n h (ev e c)
    cases ev e c with
    | bool t=>exact Cn.app _ _ _ _
    | _=>exact Cn.const _
  | block i b=>exact (Cn.re (Ψ:=fun x e n h _=>blockE i e n h x) (Cn.app b e n h) (fun _ _ _ _=>Cn.const _)).cast fun X => (by show blockR i (X b e n h)=_; unfold blockR; cases X b e n h <;> rfl)
  | loop b=>exact cn_seqR (.loop b) (Cn.app b e n h)
  | scope b=>exact Cn.app _ _ _ _
  | reg ops=>exact cn_runOps F ops e n h
  | draw un bar ops=>exact cn_runDraw F stride ops un bar [] e n h
  | rng f ps a b =>
    show Cn Re.bad fun X=>rngF F X e n h ps a b (ev e f)
    cases ev e f with
    | fn g x c =>
      exact (Cn.rd (Ψ:=fun _ n1 h1 _=>afterRng e n n1 h1 (getO h1 n)) (cn_callFn (n+1) ((n,.loop n e ps a b .none)::h) (appL x (.yld n::c)) (F g)) (fun _ _ _=>Cn.const _)).cast fun X => (by show rngK e n (callFn X (n+1) ((n,.loop n e ps a b .none)::h) (appL x (.yld n::c)) (F g))=_; unfold rngK; cases callFn X (n+1) ((n,.loop n e ps a b .none)::h) (appL x (.yld n::c)) (F g) <;> rfl)
    | _=>exact Cn.const _
theorem exec_le (i:Nat):Le (exec F i) (exec F (i+1)):=by
  induction i with
  | zero=>intro c e n h hb; exact absurd rfl hb
  | succ i ih=>intro c e n h hb; exact (cn_step F c e n h).mono ih hb
theorem exec_chain:Chain (exec F):=by
  intro i j hij
  induction j with
  | zero => have : i = 0 := by omega
            subst this; exact Le.refl _
  | succ j ih =>
    by_cases e:i=j+1
    · subst e; exact Le.refl _
    · exact (ih (by omega)).trans (exec_le F j)

noncomputable def LX:RunF:=lim (exec F)
theorem LX_eq (c:DCode) (e:Tr) (n:Nat) (h:Hps):LX F c e n h=step F (LX F) c e n h:=by
  by_cases hb:LX F c e n h = .bad
  · rw [hb]
    cases hs:step F (LX F) c e n h with
    | bad=>rfl
    | ok x e' n' h' =>
      obtain ⟨i,hi⟩ := (cn_step F c e n h).cont (exec_chain F) (show step F (lim (exec F)) c e n h ≠ .bad by rw [show step F (lim (exec F)) c e n h=_ from hs]; exact fun h=>by cases h)
      have h1:=hi i (Nat.le_refl _)
      rw [show step F (lim (exec F)) c e n h=_ from hs] at h1
      have h2:=lim_le (exec_chain F) (i+1) c e n h (by rw [show exec F (i+1) c e n h=_ from h1]; exact fun h=>by cases h)
      rw [show lim (exec F) c e n h=_ from hb,show exec F (i+1) c e n h=_ from h1] at h2
      cases h2
  · obtain ⟨i,hi⟩:=lim_ev (exec_chain F) (show lim (exec F) c e n h ≠ .bad from hb)
    have h1:=hi (i+1) (Nat.le_succ _)
    have h2 := (cn_step F c e n h).mono (lim_le (exec_chain F) i) (by rw [show step F (exec F i) c e n h=_ from h1]; exact hb)
    rw [show step F (exec F i) c e n h=_ from h1] at h2
    exact h2.symm

theorem callFn_exec {n:Nat} {h:Hps} {args:List D} {f:DFn} {d:D} {n':Nat} {h':Hps} (hx:callFn (LX F) n h args f = .ok d n' h'):∃ i,callFn (exec F i) n h args f = .ok d n' h':=by
  obtain ⟨i,hi⟩ := (cn_callFn n h args f).cont (exec_chain F) (show callFn (lim (exec F)) n h args f ≠ .bad by rw [show callFn (lim (exec F)) n h args f=_ from hx]; exact fun h=>by cases h)
  exact ⟨i,(hi i (Nat.le_refl _)).trans hx⟩
theorem callFn_LX {i n:Nat} {h:Hps} {args:List D} {f:DFn} {d:D} {n':Nat} {h':Hps} (hx:callFn (exec F i) n h args f = .ok d n' h'):callFn (LX F) n h args f = .ok d n' h' :=
  ((cn_callFn n h args f).mono (lim_le (exec_chain F) i) (by rw [hx]; exact fun h=>by cases h)).trans hx
end
end
end Go.Proofs.Ytpbpmpabndgeeaa

/- From a statement's words to data: what an argument reads as,is data; what a run over data tells,the statement says. No condition. -/
namespace Go.Proofs.Ytpbpmpabndgeeaa
open Go Go.RowKit Go.WideShapes Go.ChangeShapes

section
variable {H:Type} (P:Program)

def dVal:Nat→TypeId→DataW H→D
  | 0,_,_ => .junk
  | f+1,t,x=>match P.underlying t,x with
    | some .bool,.lit (.bool b) => .bool b
    | some (.int _),.lit (.int k n) => .int k n
    | some .string,.lit (.string l) => .str (l.map UInt8.toNat)
    | some (.pointer _),.nil => .nilp
    | some (.pointer e),.ptr y=>if 0 < P.cellsOf e then .ip (dVal f e y) 0 else .junk
    | some (.slice _),.nil => .nils
    | some (.slice e),.slice es sp => .sl (P.cellsOf e) (es.map (dVal f e)) (sp.map (dVal f e)) sp.isEmpty
    | some (.struct fs),.agg ps => .agg ((fs.toList.zip ps).flatMap fun p=>cells (dVal f p.1.type p.2))
    | some (.array _ e),.agg ps => .agg (ps.flatMap fun p=>cells (dVal f e p))
    | some (.map _ _),.nil => .nilm
    | _,_ => .junk

def Fit:Nat→TypeId→DataW H→Prop
  | 0,_,_=>False
  | f+1,t,x=>match P.underlying t with
    | some .bool=>∃ b,x = .lit (.bool b)
    | some (.int k)=>∃ n,x = .lit (.int k n)∧k.min≤n∧n≤k.max
    | some .string=>∃ l,x = .lit (.string l)∧l.length≤maxLen
    | some (.pointer e)=>x = .nil∨∃ y,x = .ptr y∧Fit f e y
    | some (.slice e)=>x = .nil∨∃ es sp,x = .slice es sp∧es.length+sp.length≤maxLen∧∀ y,y∈es++sp→Fit f e y
    | some (.struct fs)=>∃ ps,x = .agg ps∧ps.length=fs.toList.length∧∀ q,q∈fs.toList.zip ps→Fit f q.1.type q.2
    | _=>True

def ArgsAre:List TypeId→List (DataW H)→List D→Prop
  | [],[],[]=>True
  | t::ts,x::xs,d::ds => (∃ f,d=dVal P f t x∧Fit P f t x)∧ArgsAre ts xs ds
  | _,_,_=>False
end

section
variable {H:Type} {enc:TypeId×Value→H} {P:Program} {w:World} {β:Nat→Bk}

structure CR (w:World) (β:Nat→Bk) (cs:List Value) (d:D):Prop where
  len : (cells d).length=cs.length
  one:∀ j,j < cs.length → (cs.getD j undef).oneCell'=true
  rep:∀ j,j < cs.length→Rep w (Mk β (fun _=>False) []) β No (cs.getD j undef) ((cells d).getD j .junk)

theorem not_marked (β:Nat→Bk) (b:Nat):¬ Mk β (fun _=>False) [] b:=by
  rintro (h | ⟨r,h,_⟩)
  · exact h
  · exact h rfl
theorem CR.single {v:Value} {d:D} (hd:cells d=[d]) (ho:v.oneCell'=true) (hr:Rep w (Mk β (fun _=>False) []) β No v d):CR w β [v] d:=by
  refine ⟨by rw [hd]; rfl,fun j hj=>?_,fun j hj=>?_⟩
  · have:j=0:=by simp at hj; omega
    subst this; exact ho
  · have:j=0:=by simp at hj; omega
    subst this; rw [hd]; exact hr
theorem mapM_get {α γ:Type} {f:α→Option γ}:∀ {l:List α} {r:List γ},l.mapM f=some r→∀ i,i < l.length→∃ a y,l[i]? = some a∧r[i]? = some y∧f a=some y:=by
  intro l
  induction l with
  | nil=>intro r _ i hi; exact absurd hi (Nat.not_lt_zero _)
  | cons x xs ih =>
    intro r h i hi
    rw [List.mapM_cons] at h
    simp only [Option.pure_def,Option.bind_eq_bind,Option.bind_eq_some_iff] at h
    obtain ⟨y,hy,ys,hys,h2⟩:=h
    cases h2
    cases i with
    | zero=>exact ⟨x,y,rfl,rfl,hy⟩
    | succ i=>obtain ⟨a,z,h1,h2,h3⟩:=ih hys i (by simpa using hi); exact ⟨a,z,by simpa using h1,by simpa using h2,h3⟩
theorem cells_get {base n:Nat} {a:Addr} {cs:List Value} (h:w.cells? base a n=some cs):cs.length=n∧∀ i,i < n→w.cell? (a.add i)=some (cs.getD i undef):=by
  unfold World.cells? at h
  split at h
  · have hl:=mapM_some_length h
    rw [List.length_range] at hl
    refine ⟨hl,fun i hi=>?_⟩
    obtain ⟨a',y,h1,h2,h3⟩:=mapM_get h i (by simpa using hi)
    rw [List.getElem?_range hi] at h1
    cases h1
    rw [List.getD_eq_getElem?_getD,h2]
    exact h3
  · cases h
theorem cell_lit {a:Addr} {v:Value} (h:w.cell? a=some v):a=⟨a.block,a.off,none⟩∧a.block < w.heap.size:=by
  unfold World.cell? at h
  split at h
  · rename_i c T fr he
    split at h
    · cases h
    · rename_i hs
      obtain ⟨b,o,s⟩:=a
      cases s with
      | none=>exact ⟨rfl,lt_of_some he⟩
      | some s=>exact absurd rfl hs
  · cases h
theorem flat_get {α γ:Type} (g:α→List γ) (z:γ):∀ (l:List α) (i:Nat) (a:α),l[i]? = some a→∀ j,j < (g a).length → (l.flatMap g).getD (((l.take i).map fun a => (g a).length).sum+j) z = (g a).getD j z:=by
  intro l
  induction l with
  | nil=>intro i a h; simp at h
  | cons x xs ih =>
    intro i a h j hj
    cases i with
    | zero =>
      have:x=a:=by simpa using h
      subst this
      simp only [List.take_zero,List.map_nil,List.sum_nil,Nat.zero_add,List.flatMap_cons]
      simp [List.getD_eq_getElem?_getD,List.getElem?_append_left hj]
    | succ i =>
      have h':xs[i]? = some a:=by simpa using h
      have:=ih i a h' j hj
      simp only [List.take_succ_cons,List.map_cons,List.sum_cons,List.flatMap_cons]
      rw [List.getD_eq_getElem?_getD,List.getElem?_append_right (by omega),← List.getD_eq_getElem?_getD,show (g x).length + ((List.take i xs).map fun a => (g a).length).sum+j - (g x).length = ((List.take i xs).map fun a => (g a).length).sum+j from by omega]
      exact this

theorem sb_eq (s:ByteArray):sb s=s.data.toList.map UInt8.toNat:=rfl
theorem elem_rep {r:TypeId→List Value→Option (DataW H×List MemPlace)} {q:TypeId→DataW H→D} {e:TypeId} (hr:∀ cs x,r e cs=some x→CR w β cs (q e x.1)) {a:Addr} {i:Nat} {y:DataW H×List MemPlace}
    (h : (w.cells? 0 (a.add (i*P.cellsOf e)) (P.cellsOf e)).bind (r e)=some y) : (cells (q e y.1)).length=P.cellsOf e∧∀ j,j < P.cellsOf e→∃ v,w.cell? ((a.add (i*P.cellsOf e)).add j)=some v∧v.oneCell'=true∧Rep w (Mk β (fun _=>False) []) β No v ((cells (q e y.1)).getD j .junk):=by
  simp only [Option.bind_eq_some_iff] at h
  obtain ⟨cs,h1,h2⟩:=h
  obtain ⟨h3,h4⟩:=cells_get h1
  have h5:=hr cs y h2
  exact ⟨h5.len.trans h3,fun j hj=>⟨_,h4 j hj,h5.one j (by omega),h5.rep j (by omega)⟩⟩

theorem row_rep {gs:List D} {cs:List Value} {starts:Nat→Nat} (hlen : (gs.flatMap cells).length=cs.length)
    (hst:∀ i g,gs[i]? = some g→starts i = ((gs.take i).map fun g => (cells g).length).sum)
    (hr:∀ i g,gs[i]? = some g→CR w β ((cs.drop (starts i)).take (cells g).length) g):CR w β cs (.agg (gs.flatMap cells)):=by
  have key:∀ j,j < cs.length→∃ i g j',gs[i]? = some g∧j' < (cells g).length∧j=starts i+j':=by
    intro j hj
    have hs : (gs.map fun g => (cells g).length).sum=cs.length:=by rw [← hlen,List.length_flatMap]
    obtain ⟨i,h1,h2,h3⟩:=cover (gs.map fun g => (cells g).length) j (by rw [hs]; exact hj)
    have hi:i < gs.length:=by simpa using h1
    refine ⟨i,gs[i],j - starts i,by simp [hi],?_,?_⟩
    · rw [hst i gs[i] (by simp [hi])]
      rw [List.map_take]
      rw [List.getD_eq_getElem?_getD,List.getElem?_map,List.getElem?_eq_getElem hi] at h3
      simp only [Option.map_some,Option.getD_some] at h3
      omega
    · rw [hst i gs[i] (by simp [hi])]
      rw [List.map_take]
      omega
  refine ⟨hlen,fun j hj=>?_,fun j hj=>?_⟩
  all_goals
    obtain ⟨i,g,j',h1,h2,rfl⟩:=key j hj
    have h3:=hr i g h1
    have h4 : ((cs.drop (starts i)).take (cells g).length).length = (cells g).length:=h3.len.symm
    have h5 : ((cs.drop (starts i)).take (cells g).length).getD j' undef=cs.getD (starts i+j') undef:=by
      rw [List.getD_eq_getElem?_getD,List.getElem?_take,if_pos h2,List.getElem?_drop,← List.getD_eq_getElem?_getD]
  · rw [← h5]; exact h3.one j' (by rw [h4]; exact h2)
  · have h6:=h3.rep j' (by rw [h4]; exact h2)
    rw [h5] at h6
    show Rep w _ β No _ ((gs.flatMap cells).getD (starts i+j') .junk)
    rw [hst i g h1,flat_get cells .junk gs i g h1 j' h2,← hst i g h1]
    exact h6

theorem trod_rep (K:Kids P (· < P.types.size)) (hz:∀ t e,t < P.types.size→P.underlying t=some (.slice e)→0 < P.cellsOf e):∀ (f:Nat) (t:TypeId) (cs:List Value) (x:DataW H×List MemPlace),t < P.types.size →
    DataW.trod enc P w 0 (fun _=>true) true f t cs=some x→CR w β cs (dVal P f t x.1):=by
  intro f
  induction f with
  | zero=>intro t cs x _ h; simp [DataW.trod] at h
  | succ f ih =>
    intro t cs x hT h
    rw [DataW.trod_step] at h
    unfold DataW.trodStep at h
    have oneJ:∀ {v:Value} {d:D},v.oneCell'=true→d = .junk→CR w β [v] d:=by
      intro v d hv hd
      subst hd
      exact CR.single rfl hv .junk
    split at h
    · rename_i hu; cases h; simp only [dVal,hu]; exact CR.single rfl rfl .bool
    · rename_i hu
      split at h
      · rename_i hk
        cases h; simp only [dVal,hu]
        obtain ⟨rfl,_⟩:=hk
        exact CR.single rfl rfl .int
      · cases h
    · rename_i hu
      split at h
      · cases h; exact oneJ rfl (by simp only [dVal,hu])
      · cases h
    · rename_i hu
      split at h
      · cases h; simp only [dVal,hu]; rw [← sb_eq]; exact CR.single rfl rfl (.str _)
      · cases h
    · rename_i hu; cases h; simp only [dVal,hu]; exact CR.single rfl rfl .nilp
    · rename_i e a hu
      simp only [Option.map_eq_some_iff,Option.bind_eq_some_iff] at h
      obtain ⟨y,⟨cs',hc,hy⟩,rfl⟩:=h
      simp only [dVal,hu]
      split
      · rename_i hpos
        obtain ⟨h3,h4⟩:=cells_get hc
        have h5:=ih e cs' y (K.pointer hT hu) hy
        have h6:=h4 0 hpos
        rw [show a.add 0=a from rfl] at h6
        obtain ⟨h7,h8⟩:=cell_lit h6
        refine CR.single rfl rfl ?_
        have h9:=Rep.ip (w:=w) (M:=Mk β (fun _=>False) []) (β:=β) (N:=No) a.block a.off (dVal P f e y.1) 0 (fun x=>cs'.getD x undef) (fun _=>⟨h8,not_marked β _⟩) (fun x hx=>?_) (fun x hx=>h5.one x (h5.len ▸ hx)) (fun x hx=>h5.rep x (h5.len ▸ hx))
        · rw [h7]; exact h9
        · have h10:=h4 x (by rw [← h3,← h5.len]; exact hx)
          rw [h7] at h10
          rw [← h10,Addr.add_lit]
      · exact oneJ rfl rfl
    · rename_i hu; cases h; simp only [dVal,hu]; exact CR.single rfl rfl .nils
    · rename_i e a len cap hu
      simp only at h
      split at h
      · rename_i hcnd
        obtain ⟨_,hlc,_⟩:=hcnd
        simp only [if_true,Option.map_eq_some_iff,Option.bind_eq_some_iff] at h
        obtain ⟨elems,he,rest,hrest,rfl⟩:=h
        have hl1:elems.length=len:=by simpa using mapM_some_length he
        have hl2:rest.length=cap - len:=by simpa using mapM_some_length hrest
        have hk:=hz t e hT hu
        have hel:∀ i y,(elems++rest)[i]? = some y → (cells (dVal P f e y.1)).length=P.cellsOf e∧∀ j,j < P.cellsOf e→∃ v,w.cell? ((a.add (i*P.cellsOf e)).add j)=some v∧v.oneCell'=true∧Rep w (Mk β (fun _=>False) []) β No v ((cells (dVal P f e y.1)).getD j .junk):=by
          intro i y hi
          refine elem_rep (r:=DataW.trod enc P w 0 (fun _=>true) true f) (q:=dVal P f) (fun cs x hx=>ih e cs x (K.slice hT hu) hx) ?_
          by_cases hil:i < len
          · obtain ⟨i',y',g1,g2,g3⟩:=mapM_get he i (by simpa using hil)
            rw [List.getElem?_range hil] at g1
            cases g1
            rw [List.getElem?_append_left (by omega),g2] at hi
            cases hi
            simpa using g3
          · have hi2:i < len+rest.length:=by
              have := (List.getElem?_eq_some_iff.1 hi).1
              rw [List.length_append] at this; omega
            obtain ⟨i',y',g1,g2,g3⟩:=mapM_get hrest (i - len) (by simp; omega)
            rw [List.getElem?_range (by omega)] at g1
            cases g1
            rw [List.getElem?_append_right (by omega),hl1,g2] at hi
            cases hi
            rw [show len + (i - len)=i by omega] at g3
            simpa using g3
        have hab:a=⟨a.block,a.off,none⟩∧a.block < w.heap.size∨cap=0:=by
          rcases Nat.eq_zero_or_pos cap with h0 | h0
          · exact .inr h0
          · left
            have hlen:0 < (elems++rest).length:=by rw [List.length_append]; omega
            obtain ⟨v,g1,_⟩ := (hel 0 (elems++rest)[0] (by simp [hlen])).2 0 hk
            rw [Nat.zero_mul] at g1
            exact cell_lit g1
        simp only [dVal,hu]
        refine CR.single rfl rfl ?_
        have hval:∀ i,i < ((elems.map (·.1)).map (dVal P f e) ++ (rest.map (·.1)).map (dVal P f e)).length→∃ y,(elems++rest)[i]? = some y ∧ ((elems.map (·.1)).map (dVal P f e) ++ (rest.map (·.1)).map (dVal P f e)).getD i .junk=dVal P f e y.1:=by
          intro i hi
          have hi2:i < (elems++rest).length:=by simpa using hi
          refine ⟨(elems++rest)[i],by simp [hi2],?_⟩
          rw [List.map_map,List.map_map,← List.map_append,List.getD_eq_getElem?_getD,List.getElem?_map,List.getElem?_eq_getElem hi2]
          rfl
        have hcap : ((elems.map (·.1)).map (dVal P f e) ++ (rest.map (·.1)).map (dVal P f e)).length=cap:=by simp; omega
        have hcell:∀ i,i < ((elems.map (·.1)).map (dVal P f e) ++ (rest.map (·.1)).map (dVal P f e)).length→∀ j,j < P.cellsOf e→∃ v,w.cell? ⟨a.block,a.off + (i*P.cellsOf e+j),none⟩=some v∧v.oneCell'=true ∧
            Rep w (Mk β (fun _=>False) []) β No v ((cells (((elems.map (·.1)).map (dVal P f e) ++ (rest.map (·.1)).map (dVal P f e)).getD i .junk)).getD j .junk):=by
          intro i hi j hj
          obtain ⟨y,g1,g2⟩:=hval i hi
          obtain ⟨v,g3,g4,g5⟩ := (hel i y g1).2 j hj
          have hab' := (hab.resolve_right (by omega)).1
          rw [hab',Addr.add_lit,Addr.add_lit] at g3
          rw [g2]
          exact ⟨v,by rw [← Nat.add_assoc]; exact g3,g4,g5⟩
        have:=Rep.sl (w:=w) (M:=Mk β (fun _=>False) []) (β:=β) (N:=No) a a.block a.off cap (P.cellsOf e) ((elems.map (·.1)).map (dVal P f e)) ((rest.map (·.1)).map (dVal P f e)) (rest.map (·.1)).isEmpty
          (fun i j => (w.cell? ⟨a.block,a.off + (i*P.cellsOf e+j),none⟩).getD undef) (hab.imp (·.1) id) (fun h0=>⟨(hab.resolve_right (by rintro rfl; rw [hcap,Nat.zero_mul] at h0; omega)).2,not_marked β _⟩)
          (fun g hg=>?_) (by simp; omega) (fun hf=>?_) (fun i hi j hj=>?_) (fun i hi j hj=>?_) (fun i hi j hj=>?_)
        · simpa [hl1] using this
        · obtain ⟨i,hi,rfl⟩:=List.mem_iff_getElem.1 hg
          obtain ⟨y,g1,g2⟩:=hval i hi
          rw [List.getD_eq_getElem?_getD,List.getElem?_eq_getElem hi,Option.getD_some] at g2
          rw [g2]
          exact (hel i y g1).1
        · have:rest=[]:=by simpa using hf
          subst this
          simp at hl2 ⊢
          omega
        · obtain ⟨v,g1,_⟩:=hcell i hi j hj
          rw [g1]; rfl
        · obtain ⟨v,g1,g2,_⟩:=hcell i hi j hj
          simp only [g1]; exact g2
        · obtain ⟨v,g1,_,g3⟩:=hcell i hi j hj
          simp only [g1]; exact g3
      · cases h
    · rename_i cs _ _ fs hu
      split at h
      · rename_i hlen
        simp only [Option.map_eq_some_iff] at h
        obtain ⟨xs,hx,rfl⟩:=h
        obtain ⟨k1,k2,k3⟩:=K.struct hT hu
        have hlx:=mapM_some_length hx
        simp only [dVal,hu]
        have hg:∀ (i:Nat) (g:D),((fs.toList.zip (xs.map (·.1))).map fun p=>dVal P f p.1.type p.2)[i]? = some g→∃ (fl:Field) (y:DataW H×List MemPlace),fs.toList[i]? = some fl∧xs[i]? = some y∧g=dVal P f fl.type y.1∧CR w β ((cs.drop fl.offset).take (P.cellsOf fl.type)) g ∧ (cells g).length=P.cellsOf fl.type:=by
          intro i g hg
          rw [List.getElem?_map] at hg
          have hil:i < fs.toList.length:=by
            rcases Nat.lt_or_ge i fs.toList.length with h | h
            · exact h
            · rw [List.getElem?_eq_none (by simp only [List.length_map,List.length_zip]; omega)] at hg; cases hg
          obtain ⟨fl,y,g1,g2,g3⟩:=mapM_get hx i hil
          have hz2 : (fs.toList.zip (xs.map (·.1)))[i]? = some (fl,y.1):=by
            rw [List.getElem?_zip_eq_some]
            exact ⟨g1,by rw [List.getElem?_map,g2]; rfl⟩
          rw [hz2] at hg
          cases hg
          have h5:=ih fl.type _ y (k1 fl (List.mem_of_getElem? g1)) g3
          refine ⟨fl,y,g1,g2,rfl,h5,h5.len.trans ?_⟩
          have hoff:=k3 i fl g1
          rw [List.length_take,List.length_drop,hlen,k2]
          have hsum : ((fs.toList.take i).map fun f=>P.cellsOf f.type).sum+P.cellsOf fl.type ≤ (fs.toList.map fun f=>P.cellsOf f.type).sum:=by
            have h6:fs.toList=fs.toList.take i ++ (fl::fs.toList.drop (i+1)):=by
              have h7:fs.toList.drop i=fl::fs.toList.drop (i+1):=by rw [List.drop_eq_getElem_cons hil,(List.getElem?_eq_some_iff.1 g1).2]
              rw [← h7,List.take_append_drop]
            conv=>rhs; rw [h6]
            rw [List.map_append,List.sum_append,List.map_cons,List.sum_cons]
            omega
          omega
        have hfm : (fs.toList.zip (xs.map (·.1))).flatMap (fun p=>cells (dVal P f p.1.type p.2)) = ((fs.toList.zip (xs.map (·.1))).map fun p=>dVal P f p.1.type p.2).flatMap cells:=by rw [List.flatMap_map]
        have hsz:∀ i,i≤fs.toList.length → ((((fs.toList.zip (xs.map (·.1))).map fun p=>dVal P f p.1.type p.2).take i).map fun g => (cells g).length) = (fs.toList.take i).map fun f=>P.cellsOf f.type:=by
          intro i hi
          refine List.ext_getElem? fun j=>?_
          rw [List.getElem?_map,List.getElem?_map,List.getElem?_take,List.getElem?_take]
          split
          · have hjl:j < fs.toList.length:=by omega
            have hgl : ((fs.toList.zip (xs.map (·.1))).map fun p=>dVal P f p.1.type p.2)[j]? = some (((fs.toList.zip (xs.map (·.1))).map fun p=>dVal P f p.1.type p.2)[j]'(by simp only [List.length_map,List.length_zip]; omega)):=List.getElem?_eq_getElem _
            obtain ⟨fl,y,g1,g2,g3,g4,g5⟩:=hg j _ hgl
            rw [hgl,g1]
            simp only [Option.map_some,Option.some.injEq]
            exact g5
          · rfl
        rw [hfm]
        refine row_rep (starts:=fun i => ((fs.toList.take i).map fun f=>P.cellsOf f.type).sum) ?_ (fun i g hgi=>?_) (fun i g hgi=>?_)
        · rw [List.length_flatMap,hlen,k2]
          have:=hsz fs.toList.length (Nat.le_refl _)
          rw [List.take_length,List.take_of_length_le (by simp only [List.length_map,List.length_zip]; omega)] at this
          rw [← this]
        · obtain ⟨fl,y,g1,_⟩:=hg i g hgi
          rw [hsz i (Nat.le_of_lt (List.getElem?_eq_some_iff.1 g1).1)]
        · obtain ⟨fl,y,g1,g2,g3,g4,g5⟩:=hg i g hgi
          rw [g5,← k3 i fl g1]
          exact g4
      · cases h
    · rename_i cs _ _ n e hu
      split at h
      · rename_i hlen
        simp only [Option.map_eq_some_iff] at h
        obtain ⟨xs,hx,rfl⟩:=h
        obtain ⟨k1,k2⟩:=K.array hT hu
        have hlx:=mapM_some_length hx
        rw [List.length_range] at hlx
        simp only [dVal,hu]
        have hg:∀ (i:Nat) (g:D),((xs.map (·.1)).map (dVal P f e))[i]? = some g→i < n∧CR w β ((cs.drop (i*P.cellsOf e)).take (P.cellsOf e)) g ∧ (cells g).length=P.cellsOf e:=by
          intro i g hg
          have hil:i < n:=by
            rcases Nat.lt_or_ge i n with h | h
            · exact h
            · rw [List.getElem?_eq_none (by simp; omega)] at hg; cases hg
          obtain ⟨i',y,g1,g2,g3⟩:=mapM_get hx i (by simpa using hil)
          rw [List.getElem?_range hil] at g1
          cases g1
          rw [List.getElem?_map,List.getElem?_map,g2] at hg
          cases hg
          have h5:=ih e _ y k1 g3
          refine ⟨hil,h5,h5.len.trans ?_⟩
          rw [List.length_take,List.length_drop,hlen,k2]
          have : (i+1)*P.cellsOf e≤n*P.cellsOf e:=Nat.mul_le_mul_right _ hil
          rw [Nat.add_mul,Nat.one_mul] at this
          omega
        have hsz:∀ i,i≤n → ((((xs.map (·.1)).map (dVal P f e)).take i).map fun g => (cells g).length).sum=i*P.cellsOf e:=by
          intro i
          induction i with
          | zero=>intro _; simp
          | succ i ihi =>
            intro hi
            have hgl : ((xs.map (·.1)).map (dVal P f e))[i]? = some (((xs.map (·.1)).map (dVal P f e))[i]'(by simp; omega)):=List.getElem?_eq_getElem _
            obtain ⟨_,_,g3⟩:=hg i _ hgl
            rw [List.take_add_one,hgl,List.map_append,List.sum_append,ihi (by omega)]
            simp only [Option.toList_some,List.map_cons,List.map_nil,List.sum_cons,List.sum_nil,g3]
            rw [Nat.add_mul,Nat.one_mul]
            omega
        rw [show (xs.map (·.1)).flatMap (fun p=>cells (dVal P f e p)) = ((xs.map (·.1)).map (dVal P f e)).flatMap cells by simp only [List.flatMap_map]]
        refine row_rep (starts:=fun i=>i*P.cellsOf e) ?_ (fun i g hgi=>?_) (fun i g hgi=>?_)
        · rw [List.length_flatMap,hlen,k2]
          have:=hsz n (Nat.le_refl _)
          rw [List.take_of_length_le (by simp; omega)] at this
          exact this
        · rw [hsz i (Nat.le_of_lt (hg i g hgi).1)]
        · obtain ⟨_,g2,g3⟩:=hg i g hgi
          rw [g3]; exact g2
      · cases h
    · rename_i hu; cases h; exact oneJ rfl (by simp only [dVal,hu])
    · rename_i hu
      simp only at h
      cases h
      exact oneJ rfl (by simp only [dVal,hu])
    · rename_i hu; cases h; simp only [dVal,hu]; exact CR.single rfl rfl .nilm
    · rename_i k e b hu
      split at h
      · split at h
        · simp only [Option.bind_eq_some_iff] at h
          obtain ⟨es,_,h⟩:=h
          split at h
          · cases h; exact oneJ rfl (by simp only [dVal,hu])
          · cases h
        · cases h
      · cases h
    · rename_i hu; cases h; exact oneJ rfl (by simp only [dVal,hu])
    · rename_i hu; cases h; exact oneJ rfl (by simp only [dVal,hu])
    · rename_i hu; cases h; exact oneJ rfl (by simp only [dVal,hu])
    · rename_i hu; simp only [if_true] at h; cases h; exact oneJ rfl (by simp only [dVal,hu])
    · rename_i hu; simp only [if_true] at h; cases h; exact oneJ rfl (by simp only [dVal,hu])
    · rename_i hu; simp only [if_true] at h; cases h; exact oneJ rfl (by simp only [dVal,hu])
    · cases h
end
end Go.Proofs.Ytpbpmpabndgeeaa
