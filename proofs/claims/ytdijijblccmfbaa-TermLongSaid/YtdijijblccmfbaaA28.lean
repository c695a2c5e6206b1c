/- The run without a bound on its steps: the limit of all bounded runs, and its equations. No condition. -/
import Derived.Test.YtdijijblccmfbaaA27
set_option linter.unusedSimpArgs false
set_option linter.unusedVariables false
namespace Go.Proofs.Ytdijijblccmfbaa
open Go

def Le (X Y : RunF) : Prop := ∀ c e n h, X c e n h ≠ .bad → Y c e n h = X c e n h
theorem Le.refl (X : RunF) : Le X X := fun _ _ _ _ _ => rfl
theorem Le.trans {X Y Z : RunF} (a : Le X Y) (b : Le Y Z) : Le X Z := fun c e n h hb => by
  have h1 := a c e n h hb
  rw [b c e n h (by rw [h1]; exact hb), h1]

open Classical in
noncomputable def lim (Xs : Nat → RunF) : RunF := fun c e n h => if H : ∃ f, Xs f c e n h ≠ .bad then Xs (Classical.choose H) c e n h else .bad

section
variable {Xs : Nat → RunF}

def Chain (Xs : Nat → RunF) : Prop := ∀ i j, i ≤ j → Le (Xs i) (Xs j)
theorem lim_le (hc : Chain Xs) (i : Nat) : Le (Xs i) (lim Xs) := by
  intro c e n h hb
  have H : ∃ f, Xs f c e n h ≠ .bad := ⟨i, hb⟩
  unfold lim
  rw [dif_pos H]
  have h1 := Classical.choose_spec H
  rcases Nat.le_total i (Classical.choose H) with hl | hl
  · exact hc _ _ hl c e n h hb
  · exact (hc _ _ hl c e n h h1).symm
theorem lim_ev (hc : Chain Xs) {c : DCode} {e : Tr} {n : Nat} {h : Hps} (hb : lim Xs c e n h ≠ .bad) : ∃ i, ∀ j, i ≤ j → Xs j c e n h = lim Xs c e n h := by
  by_cases H : ∃ f, Xs f c e n h ≠ .bad
  · obtain ⟨i, hi⟩ := H
    exact ⟨i, fun j hj => ((hc _ _ hj c e n h hi).trans (lim_le hc i c e n h hi).symm)⟩
  · exact absurd (by unfold lim; rw [dif_neg H]) hb

/-- what a run is put together to, goes with its runs -/
structure Cn {α : Type} (bad : α) (Φ : RunF → α) : Prop where
  mono : ∀ {X Y}, Le X Y → Φ X ≠ bad → Φ Y = Φ X
  cont : ∀ {Xs}, Chain Xs → Φ (lim Xs) ≠ bad → ∃ i, ∀ j, i ≤ j → Φ (Xs j) = Φ (lim Xs)

theorem Cn.const {α : Type} {bad : α} (a : α) : Cn bad fun _ => a := ⟨fun _ _ => rfl, fun _ _ => ⟨0, fun _ _ => rfl⟩⟩
theorem Cn.app (c : DCode) (e : Tr) (n : Nat) (h : Hps) : Cn Re.bad fun X => X c e n h := ⟨fun l hb => l c e n h hb, fun hc hb => lim_ev hc hb⟩
theorem Cn.re {α : Type} {bad : α} {Φ : RunF → Re} {Ψ : Ex → Tr → Nat → Hps → RunF → α} (h1 : Cn .bad Φ) (h2 : ∀ x e n h, Cn bad (Ψ x e n h)) :
    Cn bad fun X => match Φ X with | .ok x e n h => Ψ x e n h X | .bad => bad := by
  refine ⟨fun {X Y} l hb => ?_, fun {Xs} hc hb => ?_⟩
  · cases hx : Φ X with
    | bad => rw [hx] at hb; exact absurd rfl hb
    | ok x e n h =>
      have hy := h1.mono l (by rw [hx]; exact fun h => by cases h)
      rw [hx] at hy hb
      simp only [hy]
      exact (h2 x e n h).mono l hb
  · cases hx : Φ (lim Xs) with
    | bad => rw [hx] at hb; exact absurd rfl hb
    | ok x e n h =>
      obtain ⟨i, hi⟩ := h1.cont hc (by rw [hx]; exact fun h => by cases h)
      rw [hx] at hi hb
      obtain ⟨k, hk⟩ := (h2 x e n h).cont hc hb
      exact ⟨i + k, fun j hj => by simp only [hi j (by omega)]; exact hk j (by omega)⟩
theorem Cn.rd {α : Type} {bad : α} {Φ : RunF → Rd} {Ψ : D → Nat → Hps → RunF → α} (h1 : Cn .bad Φ) (h2 : ∀ d n h, Cn bad (Ψ d n h)) :
    Cn bad fun X => match Φ X with | .ok d n h => Ψ d n h X | .bad => bad := by
  refine ⟨fun {X Y} l hb => ?_, fun {Xs} hc hb => ?_⟩
  · cases hx : Φ X with
    | bad => rw [hx] at hb; exact absurd rfl hb
    | ok d n h =>
      have hy := h1.mono l (by rw [hx]; exact fun h => by cases h)
      rw [hx] at hy hb
      simp only [hy]
      exact (h2 d n h).mono l hb
  · cases hx : Φ (lim Xs) with
    | bad => rw [hx] at hb; exact absurd rfl hb
    | ok d n h =>
      obtain ⟨i, hi⟩ := h1.cont hc (by rw [hx]; exact fun h => by cases h)
      rw [hx] at hi hb
      obtain ⟨k, hk⟩ := (h2 d n h).cont hc hb
      exact ⟨i + k, fun j hj => by simp only [hi j (by omega)]; exact hk j (by omega)⟩
theorem Cn.ite {α : Type} {bad : α} {Φ Ψ : RunF → α} (b : Bool) (h1 : Cn bad Φ) (h2 : Cn bad Ψ) : Cn bad fun X => Bool.rec (motive := fun _ => α) (Φ X) (Ψ X) b := by
  cases b with
  | false => exact h1
  | true => exact h2
theorem Cn.cast {α : Type} {bad : α} {Φ Ψ : RunF → α} (h : Cn bad Φ) (e : ∀ X, Ψ X = Φ X) : Cn bad Ψ := (funext e : Ψ = Φ) ▸ h

section
variable (F : Nat → DFn)
theorem cn_finish (n0 : Nat) (rv : List RV) {Φ : RunF → Re} (h : Cn .bad Φ) : Cn Rd.bad fun X => finish n0 rv (Φ X) :=
  (Cn.re (Ψ := fun x e n h _ => finishE n0 rv e n h x) h (fun _ _ _ _ => Cn.const _)).cast fun X => by unfold finish; cases Φ X <;> rfl
theorem cn_finK (rv : List RV) {Φ : RunF → Re} (h : Cn .bad Φ) : Cn Rd.bad fun X => finK rv (Φ X) :=
  (Cn.re (Ψ := fun x e n h _ => finKE rv e n h x) h (fun _ _ _ _ => Cn.const _)).cast fun X => by unfold finK; cases Φ X <;> rfl
theorem cn_fin (kp : Bool) (n0 : Nat) (rv : List RV) {Φ : RunF → Re} (h : Cn .bad Φ) : Cn Rd.bad fun X => fin kp n0 rv (Φ X) := by
  cases kp with
  | false => exact cn_finish n0 rv h
  | true => exact cn_finK rv h
theorem cn_callFn (n : Nat) (h : Hps) (args : List D) (f : DFn) : Cn Rd.bad fun X => callFn X n h args f := by
  unfold callFn
  cases Nat.beq (lenL args) (lenP f.ps) with
  | false => exact Cn.const _
  | true => exact cn_fin f.keep n f.res (Cn.app f.body (argsT args f.ps) n h)
theorem cn_round (r n : Nat) (h : Hps) (args : List D) (o : Ob) : Cn Rd.bad fun X => round X r n h args o := by
  cases o with
  | loop k env ps a b j =>
    show Cn Rd.bad fun X => ifR (isSkip j) (begRound X r k n h env ps a b (putAll ps args env))
    cases isSkip j with
    | false => exact Cn.const _
    | true =>
      show Cn Rd.bad fun X => begRound X r k n h env ps a b (putAll ps args env)
      cases putAll ps args env with
      | bad => exact Cn.const _
      | ok x0 e0 n0 h0 =>
        show Cn Rd.bad fun X => midRound X r k env ps a b (X a e0 n (delO h r))
        refine (Cn.re (Ψ := fun x e n h X => match x with | .normal => lastRound r k env ps a b (X b e n h) | _ => .bad) (Cn.app a e0 n (delO h r)) (fun x e n h => ?_)).cast fun X => by unfold midRound; cases X a e0 n (delO h r) <;> rfl
        cases x with
        | normal => exact (Cn.re (Ψ := fun x e n h _ => endRound r k env ps a b n h x) (Cn.app b e n h) (fun _ _ _ _ => Cn.const _)).cast fun X => by simp only [lastRound]; cases X b e n h <;> rfl
        | exit i => exact Cn.const _
        | ret => exact Cn.const _
  | _ => exact Cn.const _
theorem cn_callX (n : Nat) (h : Hps) (f : D) (args : List D) : Cn Rd.bad fun X => callX F X n h f args := by
  cases f with
  | fn g a c => exact cn_callFn _ _ _ _
  | yld r => exact cn_round _ _ _ _ _
  | _ => exact Cn.const _
theorem cn_after {K : RunF → Tr → Nat → Hps → Re} (hK : ∀ e n h, Cn Re.bad fun X => K X e n h) (e : Tr) (dst : Option Po) {Φ : RunF → Rd} (h : Cn .bad Φ) : Cn Re.bad fun X => afterOp (K X) e dst (Φ X) :=
  (Cn.rd (Ψ := fun d n h X => K X (putE e dst d) (n + 1) h) h (fun _ _ _ => hK _ _ _)).cast fun X => by unfold afterOp; cases Φ X <;> rfl
theorem cn_subC (R : List Nat) (n : Nat) (h : Hps) (f : D) (args : List D) : Cn Rd.bad fun X => subC (callX F X) R n h f args :=
  (Cn.rd (Ψ := fun d n1 g _ => ifR (Bool.and (allN (fun r => Nat.ble r n) R) (Bool.and (inD (fun r => memN r R) 20 f) (Bool.and (allL (inD (fun r => memN r R) 20) args) (Bool.and (inH (fun r => memN r R) (subH R h)) (Bool.and (inD (ofR R (n + 1)) 20 d) (inH (ofR R (n + 1)) g)))))) (.ok d n1 (appH g (remH R h)))) (cn_callX F (n + 1) (subH R h) f args) (fun _ _ _ => Cn.const _)).cast fun X => (by show pureC R n h f args (callX F X (n + 1) (subH R h) f args) = _; unfold pureC; cases callX F X (n + 1) (subH R h) f args <;> rfl)
theorem cn_opC (e : Tr) (n : Nat) (h : Hps) (o : DOp) : Cn Rd.bad fun X => opC (callX F X) e n h o := by
  cases o with
  | call f args => exact Cn.ite (soloB (evs e args) (ev e f)) (cn_callX F _ _ _ _) (cn_subC F [] _ _ _ _)
  | _ => exact Cn.const _
theorem cn_opP (b : Bool) (e : Tr) (n : Nat) (h : Hps) (o : DOp) : Cn Rd.bad fun X => opP (callX F X) b e n h o := by
  cases o with
  | call f args =>
    cases b with
    | true => exact cn_callX F (n + 1) h (ev e f) (evs e args)
    | false =>
      show Cn Rd.bad fun X => apartC (callX F X) n h (ev e f) (evs e args) (rfL (rd 20) (evs e args))
      have hsub : ∀ R, Cn Rd.bad fun X => subC (callX F X) R n h (ev e f) (evs e args) := fun R =>
        (Cn.rd (Ψ := fun d n1 g _ => ifR (Bool.and (allN (fun r => Nat.ble r n) R) (Bool.and (inD (fun r => memN r R) 20 (ev e f)) (Bool.and (allL (inD (fun r => memN r R) 20) (evs e args)) (Bool.and (inH (fun r => memN r R) (subH R h)) (Bool.and (inD (ofR R (n + 1)) 20 d) (inH (ofR R (n + 1)) g)))))) (.ok d n1 (appH g (remH R h)))) (cn_callX F (n + 1) (subH R h) (ev e f) (evs e args)) (fun _ _ _ => Cn.const _)).cast fun X => (by show pureC R n h (ev e f) (evs e args) (callX F X (n + 1) (subH R h) (ev e f) (evs e args)) = _; unfold pureC; cases callX F X (n + 1) (subH R h) (ev e f) (evs e args) <;> rfl)
      cases rfL (rd 20) (evs e args) with
      | cons r rs => exact hsub _
      | nil =>
        show Cn Rd.bad fun X => capC (callX F X) n h (ev e f) (evs e args) (rd 20 (ev e f))
        cases rd 20 (ev e f) with
        | nil => exact hsub []
        | cons r rs => exact (Cn.rd (Ψ := fun d n1 g _ => match g with | [] => ifR (Bool.and (clo 20 (frz h 0 20 (ev e f))) (Bool.and (allL (clo 20) (mapL (frz h 0 20) (evs e args))) (bare 20 d))) (.ok d n1 h) | _ :: _ => .bad) (cn_callX F (n + 1) [] (frz h 0 20 (ev e f)) (mapL (frz h 0 20) (evs e args))) (fun _ _ _ => Cn.const _)).cast fun X => (by show snapC n h (frz h 0 20 (ev e f)) (mapL (frz h 0 20) (evs e args)) (callX F X (n + 1) [] (frz h 0 20 (ev e f)) (mapL (frz h 0 20) (evs e args))) = _; unfold snapC; cases callX F X (n + 1) [] (frz h 0 20 (ev e f)) (mapL (frz h 0 20) (evs e args)) <;> rfl)
  | _ => exact Cn.const _
theorem cn_runOps : ∀ (l : List DOper) (e : Tr) (n : Nat) (h : Hps), Cn Re.bad fun X => runOps (callX F X) l e n h := by
  intro l
  induction l with
  | nil => intro e n h; exact Cn.const _
  | cons o l ih =>
    intro e n h
    obtain ⟨dst, g, o⟩ := o
    show Cn Re.bad fun X => stepW (callX F X) (runOps (callX F X) l) e n h dst o (want e g)
    cases want e g with
    | bad => exact Cn.const _
    | ok b => exact Cn.ite b (ih _ _ _) (cn_after (K := fun X => runOps (callX F X) l) ih e dst (cn_opC F e n h o))
theorem cn_runDraw (sd : Nat) : ∀ (l : List DOper) (un : List (List Nat)) (bar : List Bool) (ts : List (List Nat)) (e : Tr) (n : Nat) (h : Hps), Cn Re.bad fun X => runDraw sd (callX F X) l un bar ts e n h := by
  intro l
  induction l with
  | nil => intro un bar ts e n h; exact Cn.const _
  | cons o l ih =>
    intro un bar ts e n h
    cases un with
    | nil => exact Cn.const _
    | cons u ut =>
    cases bar with
    | nil => exact Cn.const _
    | cons b bt =>
      obtain ⟨dst, g, o⟩ := o
      show Cn Re.bad fun X => stepQ sd (callX F X) (runDraw sd (callX F X) l ut bt) b ts e n h u dst o (want e g)
      cases want e g with
      | bad => exact Cn.const _
      | ok t =>
        refine Cn.ite t (ih _ _ _ _ _ _) ?_
        exact (Cn.rd (Ψ := fun d n1 h1 X => Bool.rec (motive := fun _ => Re) .bad (runDraw sd (callX F X) l ut bt (touchR e n o h h1 :: ts) (putE e dst d) (n + sd) h1) (Bool.and (Nat.blt n1 (n + sd)) (apartAll (touchR e n o h h1) ts u))) (cn_opP F b e n h o) (fun _ _ _ => Cn.ite _ (Cn.const _) (ih _ _ _ _ _ _))).cast fun X => (by unfold drawK; cases opP (callX F X) b e n h o <;> rfl)
theorem cn_seqR (b : DCode) {Φ : RunF → Re} (h : Cn .bad Φ) : Cn Re.bad fun X => seqR X b (Φ X) := by
  refine (Cn.re (Ψ := fun x e n h X => seqE X b e n h x) h (fun x e n h => ?_)).cast fun X => by unfold seqR; cases Φ X <;> rfl
  cases x with
  | normal => exact Cn.app _ _ _ _
  | exit i => exact Cn.const _
  | ret => exact Cn.const _
theorem cn_step (c : DCode) (e : Tr) (n : Nat) (h : Hps) : Cn Re.bad fun X => step F X c e n h := by
  cases c with
  | skip => exact Cn.const _
  | ret => exact Cn.const _
  | bad => exact Cn.const _
  | exit i => exact Cn.const _
  | seq a b => exact cn_seqR b (Cn.app a e n h)
  | cond c a b =>
    show Cn Re.bad fun X => condR X a b e n h (ev e c)
    cases ev e c with
    | bool t => exact Cn.app _ _ _ _
    | _ => exact Cn.const _
  | block i b => exact (Cn.re (Ψ := fun x e n h _ => blockE i e n h x) (Cn.app b e n h) (fun _ _ _ _ => Cn.const _)).cast fun X => (by show blockR i (X b e n h) = _; unfold blockR; cases X b e n h <;> rfl)
  | loop b => exact cn_seqR (.loop b) (Cn.app b e n h)
  | scope b => exact Cn.app _ _ _ _
  | reg ops => exact cn_runOps F ops e n h
  | draw un bar ops => exact cn_runDraw F stride ops un bar [] e n h
  | rng f ps a b =>
    show Cn Re.bad fun X => rngF F X e n h ps a b (ev e f)
    cases ev e f with
    | fn g x c =>
      exact (Cn.rd (Ψ := fun _ n1 h1 _ => afterRng e n n1 h1 (getO h1 n)) (cn_callFn (n + 1) ((n, .loop n e ps a b .none) :: h) (appL x (.yld n :: c)) (F g)) (fun _ _ _ => Cn.const _)).cast fun X => (by show rngK e n (callFn X (n + 1) ((n, .loop n e ps a b .none) :: h) (appL x (.yld n :: c)) (F g)) = _; unfold rngK; cases callFn X (n + 1) ((n, .loop n e ps a b .none) :: h) (appL x (.yld n :: c)) (F g) <;> rfl)
    | _ => exact Cn.const _

theorem exec_le (i : Nat) : Le (exec F i) (exec F (i + 1)) := by
  induction i with
  | zero => intro c e n h hb; exact absurd rfl hb
  | succ i ih => intro c e n h hb; exact (cn_step F c e n h).mono ih hb
theorem exec_chain : Chain (exec F) := by
  intro i j hij
  induction j with
  | zero => have : i = 0 := by omega
            subst this; exact Le.refl _
  | succ j ih =>
    by_cases e : i = j + 1
    · subst e; exact Le.refl _
    · exact (ih (by omega)).trans (exec_le F j)

/-- the run -/
noncomputable def LX : RunF := lim (exec F)
theorem LX_eq (c : DCode) (e : Tr) (n : Nat) (h : Hps) : LX F c e n h = step F (LX F) c e n h := by
  by_cases hb : LX F c e n h = .bad
  · rw [hb]
    cases hs : step F (LX F) c e n h with
    | bad => rfl
    | ok x e' n' h' =>
      obtain ⟨i, hi⟩ := (cn_step F c e n h).cont (exec_chain F) (show step F (lim (exec F)) c e n h ≠ .bad by rw [show step F (lim (exec F)) c e n h = _ from hs]; exact fun h => by cases h)
      have h1 := hi i (Nat.le_refl _)
      rw [show step F (lim (exec F)) c e n h = _ from hs] at h1
      have h2 := lim_le (exec_chain F) (i + 1) c e n h (by rw [show exec F (i + 1) c e n h = _ from h1]; exact fun h => by cases h)
      rw [show lim (exec F) c e n h = _ from hb, show exec F (i + 1) c e n h = _ from h1] at h2
      cases h2
  · obtain ⟨i, hi⟩ := lim_ev (exec_chain F) (show lim (exec F) c e n h ≠ .bad from hb)
    have h1 := hi (i + 1) (Nat.le_succ _)
    have h2 := (cn_step F c e n h).mono (lim_le (exec_chain F) i) (by rw [show step F (exec F i) c e n h = _ from h1]; exact hb)
    rw [show step F (exec F i) c e n h = _ from h1] at h2
    exact h2.symm

theorem LX_exec {f : Nat} {c : DCode} {e : Tr} {n : Nat} {h : Hps} {x : Ex} {e' : Tr} {n' : Nat} {h' : Hps} (hx : exec F f c e n h = .ok x e' n' h') : LX F c e n h = .ok x e' n' h' :=
  (lim_le (exec_chain F) f c e n h (by rw [hx]; exact fun h => by cases h)).trans hx
/-- a function's call, of the limit: some bounded run tells it too -/
theorem callFn_exec {n : Nat} {h : Hps} {args : List D} {f : DFn} {d : D} {n' : Nat} {h' : Hps} (hx : callFn (LX F) n h args f = .ok d n' h') : ∃ i, callFn (exec F i) n h args f = .ok d n' h' := by
  obtain ⟨i, hi⟩ := (cn_callFn n h args f).cont (exec_chain F) (show callFn (lim (exec F)) n h args f ≠ .bad by rw [show callFn (lim (exec F)) n h args f = _ from hx]; exact fun h => by cases h)
  exact ⟨i, (hi i (Nat.le_refl _)).trans hx⟩
theorem callFn_LX {i n : Nat} {h : Hps} {args : List D} {f : DFn} {d : D} {n' : Nat} {h' : Hps} (hx : callFn (exec F i) n h args f = .ok d n' h') : callFn (LX F) n h args f = .ok d n' h' :=
  ((cn_callFn n h args f).mono (lim_le (exec_chain F) i) (by rw [hx]; exact fun h => by cases h)).trans hx
end
end
end Go.Proofs.Ytdijijblccmfbaa
