/- Calls, regions, code and functions in the fast form; a closed run. No condition. -/
import Derived.Test.YtpbpmpabndgeeaaGreatDoorQB
set_option linter.unusedSimpArgs false
set_option linter.unusedVariables false
namespace Go.Proofs.YtpbpmpabndgeeaaGreatDoor
open Go
set_option linter.unusedVariables false

noncomputable def soloq (A : List D) (f : D) : Bool := solo0 (appN (rfLq (rdq 20) A) (rdq 20 f))
theorem soloq_eq {A : List D} {f : D} : soloq A f = soloB A f := by unfold soloq soloB; rw [rfLq_to (fun d => rdq_eq),rdq_eq]
noncomputable def inHq (p : Nat → Bool) (h : Hps) : Bool := (List.rec (motive := fun _ => (Nat → Bool) → Bool) (fun _ => true) (fun x _ ih p => Bool.rec (motive := fun _ => Bool) false (Bool.rec (motive := fun _ => Bool) (Bool.and (inO p x.2) (ih p)) (ih p) (cloO x.2)) (p x.1)) h) p
theorem inHq_eq {p : Nat → Bool} : ∀ {h : Hps},inHq p h = inH p h
  | [] => rfl
  | x :: h => by
    show Bool.rec (motive := fun _ => Bool) false (Bool.rec (motive := fun _ => Bool) (Bool.and (inO p x.2) (inHq p h)) (inHq p h) (cloO x.2)) (p x.1) = Bool.and (p x.1) (Bool.and (inO p x.2) (inH p h))
    rw [inHq_eq]
    cases p x.1 with
    | false => rfl
    | true =>
      cases hc : cloO x.2 with
      | false => rfl
      | true => rw [cloO_in hc]; rfl
noncomputable def pureRq (R : List Nat) (n : Nat) (h : Hps) (f : D) (A : List D) (r : Rd) : Rd := @Rd.rec (fun _ => List Nat → Nat → Hps → D → List D → Rd) (fun _ _ _ _ _ => .bad)
  (fun d n1 g R n h f A => ifR (Bool.and (allN (fun r => Nat.ble r n) R) (Bool.and (inDq 20 (fun r => memN r R) f) (Bool.and (allLq (inDq 20 (fun r => memN r R)) A) (Bool.and (inHq (fun r => memN r R) (subH R h)) (Bool.and (inDq 20 (ofR R (n + 1)) d) (inHq (ofR R (n + 1)) g)))))) (.ok d n1 (appH g (remH R h)))) r R n h f A
theorem pureRq_eq {R : List Nat} {n : Nat} {h : Hps} {f : D} {A : List D} {r : Rd} : pureRq R n h f A r = pureC R n h f A r := by
  cases r with
  | bad => rfl
  | ok d n1 g =>
    show ifR (Bool.and (allN (fun r => Nat.ble r n) R) (Bool.and (inDq 20 (fun r => memN r R) f) (Bool.and (allLq (inDq 20 (fun r => memN r R)) A) (Bool.and (inHq (fun r => memN r R) (subH R h)) (Bool.and (inDq 20 (ofR R (n + 1)) d) (inHq (ofR R (n + 1)) g)))))) (.ok d n1 (appH g (remH R h))) =
      ifR (Bool.and (allN (fun r => Nat.ble r n) R) (Bool.and (inD (fun r => memN r R) 20 f) (Bool.and (allL (inD (fun r => memN r R) 20) A) (Bool.and (inH (fun r => memN r R) (subH R h)) (Bool.and (inD (ofR R (n + 1)) 20 d) (inH (ofR R (n + 1)) g)))))) (.ok d n1 (appH g (remH R h)))
    rw [inDq_eq,inDq_eq,allLq_to (fun d => inDq_eq),inHq_eq,inHq_eq]
noncomputable def pureQ (n : Nat) (h : Hps) (f : D) (A : List D) (r : Rd) : Rd := @Rd.rec (fun _ => Nat → Hps → D → List D → Rd) (fun _ _ _ _ => .bad)
  (fun d n1 g n h f A => ifR (Bool.and (inDq 20 (fun r => memN r []) f) (Bool.and (allLq (inDq 20 (fun r => memN r [])) A) (Bool.and (inDq 20 (ofR [] (n + 1)) d) (inHq (ofR [] (n + 1)) g)))) (.ok d n1 (appH g h))) r n h f A
theorem pureQ_eq {n : Nat} {h : Hps} {f : D} {A : List D} {r : Rd} : pureQ n h f A r = pureC [] n h f A r := by
  cases r with
  | bad => rfl
  | ok d n1 g =>
    show ifR (Bool.and (inDq 20 (fun r => memN r []) f) (Bool.and (allLq (inDq 20 (fun r => memN r [])) A) (Bool.and (inDq 20 (ofR [] (n + 1)) d) (inHq (ofR [] (n + 1)) g)))) (.ok d n1 (appH g h)) =
      ifR (Bool.and true (Bool.and (inD (fun r => memN r []) 20 f) (Bool.and (allL (inD (fun r => memN r []) 20) A) (Bool.and true (Bool.and (inD (ofR [] (n + 1)) 20 d) (inH (ofR [] (n + 1)) g)))))) (.ok d n1 (appH g h))
    rw [inDq_eq,inDq_eq,allLq_to (fun d => inDq_eq),inHq_eq]
    cases inD (fun r => memN r []) 20 f <;> cases allL (inD (fun r => memN r []) 20) A <;> rfl
noncomputable def rdObq (o : Ob) : List Nat := Bool.rec (motive := fun _ => List Nat) (rdOb o) [] (cloO o)
theorem rdObq_eq {o : Ob} : rdObq o = rdOb o := by
  unfold rdObq
  cases hc : cloO o with
  | false => rfl
  | true => rw [cloO_rd hc]
noncomputable def reachq (h : Hps) (fuel : Nat) : List Nat → List Nat → List Nat := Nat.rec (motive := fun _ => List Nat → List Nat → List Nat) (fun _ seen => seen)
  (fun _ ih todo seen => List.rec (motive := fun _ => List Nat) seen (fun r t _ => Bool.rec (motive := fun _ => List Nat) (ih (appN (rdObq (getOq h r)) t) (r :: seen)) (ih t seen) (memN r seen)) todo) fuel
theorem reachq_eq {h : Hps} : ∀ {f : Nat} {a b : List Nat},reachq h f a b = reach h f a b
  | 0,_,_ => rfl
  | f + 1,[],_ => rfl
  | f + 1,r :: t,seen => by
    show Bool.rec (motive := fun _ => List Nat) (reachq h f (appN (rdObq (getOq h r)) t) (r :: seen)) (reachq h f t seen) (memN r seen) = Bool.rec (motive := fun _ => List Nat) (reach h f (appN (rdOb (getO h r)) t) (r :: seen)) (reach h f t seen) (memN r seen)
    rw [reachq_eq,reachq_eq,rdObq_eq,getOq_eq]
noncomputable def subCq (C : CallF) (R : List Nat) (n : Nat) (h : Hps) (f : D) (A : List D) : Rd := pureRq R n h f A (C (n + 1) (subH R h) f A)
noncomputable def apartq (C : CallF) (n : Nat) (h : Hps) (f : D) (A : List D) (l : List Nat) : Rd := @List.rec Nat (fun _ => Rd) (capC C n h f A (rd 20 f)) (fun _ _ _ => (fun R => subCq C R n h f A) (reachq h 4096 (appN (rfL (rd 20) A) (rd 20 f)) [])) l
noncomputable def callPq (C : CallF) (b : Bool) (n : Nat) (h : Hps) (f : D) (A : List D) : Rd := Bool.rec (motive := fun _ => Rd) (apartq C n h f A (rfL (rd 20) A)) (C (n + 1) h f A) b
theorem callPq_eq {C : CallF} {b : Bool} {n : Nat} {h : Hps} {f : D} {A : List D} : callPq C b n h f A = callP C b n h f A := by
  cases b with
  | true => rfl
  | false =>
    show apartq C n h f A (rfL (rd 20) A) = apartC C n h f A (rfL (rd 20) A)
    cases rfL (rd 20) A with
    | nil => rfl
    | cons a l =>
      show pureRq (reachq h 4096 (appN (rfL (rd 20) A) (rd 20 f)) []) n h f A (C (n + 1) (subH (reachq h 4096 (appN (rfL (rd 20) A) (rd 20 f)) []) h) f A) = pureC (reach h 4096 (appN (rfL (rd 20) A) (rd 20 f)) []) n h f A (C (n + 1) (subH (reach h 4096 (appN (rfL (rd 20) A) (rd 20 f)) []) h) f A)
      rw [reachq_eq,pureRq_eq]
noncomputable def callq (C : CallF) (n : Nat) (h : Hps) (f : D) (A : List D) : Rd := Bool.rec (motive := fun _ => Rd) (C (n + 1) h f A) (pureQ n h f A (C (n + 1) [] f A)) (soloq A f)
theorem callq_eq {C : CallF} {n : Nat} {h : Hps} {f : D} {A : List D} : callq C n h f A = callC C n h f A := by
  unfold callq callC subC
  rw [soloq_eq,pureQ_eq]
  rfl
noncomputable def qCall (f : QO) (args : List QO) : QOp :=
  ⟨fun C E n h => callq C n h (f.g E) (evsq args E),.call f.o (args.map (·.o)),fun C E e n h r => by rw [callq_eq,f.ok E e r,evsq_eq r]; rfl,
   fun C b E n h => callPq C b n h (f.g E) (evsq args E),fun C b E e n h r => by rw [callPq_eq,f.ok E e r,evsq_eq r]; rfl,
   fun E n h h1 => appN (apartR h (f.g E) (evsq args E) (rfL (rd 20) (evsq args E))) (keysFrom n h1),fun E e n h h1 r => by rw [f.ok E e r,evsq_eq r]; rfl⟩
noncomputable def qInv (tb : List (Nat × Nat × Option (Bool × Nat))) (x : QO) (args : List QO) : QOp :=
  ⟨fun C E n h => invC C n h tb (evsq args E) (x.g E),.inv tb x.o (args.map (·.o)),fun C E e n h r => by rw [x.ok E e r,evsq_eq r]; rfl,
   fun _ _ _ _ _ => .bad,fun _ _ _ _ _ _ _ => rfl,fun _ _ _ _ => [],fun _ _ _ _ _ _ => rfl⟩

def CLe (C C' : CallF) : Prop := ∀ n h f a,C n h f a ≠ .bad → C' n h f a = C n h f a
theorem opC_le {C C' : CallF} (hC : CLe C C') {e : Tr} {n : Nat} {h : Hps} {o : DOp} (hb : opC C e n h o ≠ .bad) : opC C' e n h o = opC C e n h o := by
  cases o with
  | call f args =>
    have hs : subC C [] n h (ev e f) (evs e args) ≠ .bad → subC C' [] n h (ev e f) (evs e args) = subC C [] n h (ev e f) (evs e args) := by
      intro h1
      show pureC [] n h (ev e f) (evs e args) (C' (n + 1) (subH [] h) (ev e f) (evs e args)) = pureC [] n h (ev e f) (evs e args) (C (n + 1) (subH [] h) (ev e f) (evs e args))
      rw [hC _ _ _ _ (fun e1 => h1 (by show pureC [] n h (ev e f) (evs e args) (C (n + 1) (subH [] h) (ev e f) (evs e args)) = _; rw [e1]; rfl))]
    have hb' : Bool.rec (motive := fun _ => Rd) (C (n + 1) h (ev e f) (evs e args)) (subC C [] n h (ev e f) (evs e args)) (soloB (evs e args) (ev e f)) ≠ .bad := hb
    show Bool.rec (motive := fun _ => Rd) (C' (n + 1) h (ev e f) (evs e args)) (subC C' [] n h (ev e f) (evs e args)) (soloB (evs e args) (ev e f)) = Bool.rec (motive := fun _ => Rd) (C (n + 1) h (ev e f) (evs e args)) (subC C [] n h (ev e f) (evs e args)) (soloB (evs e args) (ev e f))
    cases hsb : soloB (evs e args) (ev e f) with
    | true => rw [hsb] at hb'; exact hs hb'
    | false => rw [hsb] at hb'; exact hC _ _ _ _ hb'
  | inv tb x args =>
    have hb' : invC C n h tb (evs e args) (ev e x) ≠ .bad := hb
    show invC C' n h tb (evs e args) (ev e x) = invC C n h tb (evs e args) (ev e x)
    revert hb'
    cases ev e x with
    | iface t d =>
      intro hb'
      have hb2 : invM C n h d (evs e args) (mthF tb t) ≠ .bad := hb'
      show invM C' n h d (evs e args) (mthF tb t) = invM C n h d (evs e args) (mthF tb t)
      revert hb2
      cases mthF tb t with
      | none => intro _; rfl
      | some f m =>
        intro hb2
        have hb3 : invR C n h f (evs e args) (recvD h d m) ≠ .bad := hb2
        show invR C' n h f (evs e args) (recvD h d m) = invR C n h f (evs e args) (recvD h d m)
        revert hb3
        cases recvD h d m with
        | bad => intro _; rfl
        | ok d1 n1 h1 => intro hb3; exact hC _ _ _ _ hb3
    | _ => intro _; rfl
  | _ => rfl
theorem runOps_le {C C' : CallF} (hC : CLe C C') : ∀ {l : List DOper} {e : Tr} {n : Nat} {h : Hps},runOps C l e n h ≠ .bad → runOps C' l e n h = runOps C l e n h
  | [],_,_,_,_ => rfl
  | .op dst g o :: l,e,n,h,hb => by
    have hb' : stepW C (runOps C l) e n h dst o (want e g) ≠ .bad := hb
    show stepW C' (runOps C' l) e n h dst o (want e g) = stepW C (runOps C l) e n h dst o (want e g)
    revert hb'
    cases want e g with
    | bad => intro _; rfl
    | ok b =>
      cases b with
      | false => intro hb'; exact runOps_le hC hb'
      | true =>
        intro hb'
        have hb2 : afterOp (runOps C l) e dst (opC C e n h o) ≠ .bad := hb'
        show afterOp (runOps C' l) e dst (opC C' e n h o) = afterOp (runOps C l) e dst (opC C e n h o)
        rw [opC_le hC (fun e1 => hb2 (by rw [e1]; rfl))]
        revert hb2
        cases opC C e n h o with
        | bad => intro _; rfl
        | ok d n1 h1 => intro hb2; exact runOps_le hC hb2
theorem opP_le {C C' : CallF} (hC : CLe C C') {b : Bool} {e : Tr} {n : Nat} {h : Hps} {o : DOp} (hb : opP C b e n h o ≠ .bad) : opP C' b e n h o = opP C b e n h o := by
  cases o with
  | call f args =>
    cases b with
    | true => exact hC _ _ _ _ hb
    | false =>
      have hs : ∀ R,subC C R n h (ev e f) (evs e args) ≠ .bad → subC C' R n h (ev e f) (evs e args) = subC C R n h (ev e f) (evs e args) := by
        intro R h1
        show pureC R n h (ev e f) (evs e args) (C' (n + 1) (subH R h) (ev e f) (evs e args)) = pureC R n h (ev e f) (evs e args) (C (n + 1) (subH R h) (ev e f) (evs e args))
        rw [hC _ _ _ _ (fun e1 => h1 (by show pureC R n h (ev e f) (evs e args) (C (n + 1) (subH R h) (ev e f) (evs e args)) = _; rw [e1]; rfl))]
      have hb' : apartC C n h (ev e f) (evs e args) (rfL (rd 20) (evs e args)) ≠ .bad := hb
      show apartC C' n h (ev e f) (evs e args) (rfL (rd 20) (evs e args)) = apartC C n h (ev e f) (evs e args) (rfL (rd 20) (evs e args))
      revert hb'
      cases rfL (rd 20) (evs e args) with
      | cons r rs => intro hb'; exact hs _ hb'
      | nil =>
        intro hb'
        have hb2 : capC C n h (ev e f) (evs e args) (rd 20 (ev e f)) ≠ .bad := hb'
        show capC C' n h (ev e f) (evs e args) (rd 20 (ev e f)) = capC C n h (ev e f) (evs e args) (rd 20 (ev e f))
        revert hb2
        cases rd 20 (ev e f) with
        | nil => intro hb2; exact hs _ hb2
        | cons r rs =>
          intro hb2
          show snapC n h _ _ (C' (n + 1) [] (frz h 0 20 (ev e f)) (mapL (frz h 0 20) (evs e args))) = snapC n h _ _ (C (n + 1) [] (frz h 0 20 (ev e f)) (mapL (frz h 0 20) (evs e args)))
          rw [hC _ _ _ _ (fun e1 => hb2 (by show snapC n h _ _ (C (n + 1) [] (frz h 0 20 (ev e f)) (mapL (frz h 0 20) (evs e args))) = _; rw [e1]; rfl))]
  | _ => rfl
theorem runDraw_le {C C' : CallF} (hC : CLe C C') {sd : Nat} : ∀ {l : List DOper} {un : List (List Nat)} {bar : List Bool} {ts : List TW} {e : Tr} {n : Nat} {h : Hps},runDraw sd C l un bar ts e n h ≠ .bad → runDraw sd C' l un bar ts e n h = runDraw sd C l un bar ts e n h
  | [],_,_,_,_,_,_,_ => rfl
  | _ :: _,[],_,_,_,_,_,_ => rfl
  | _ :: _,_ :: _,[],_,_,_,_,_ => rfl
  | .op dst g o :: l,u :: ut,b :: bt,ts,e,n,h,hb => by
    have hb' : stepQ sd C (runDraw sd C l ut bt) b ts e n h u dst o (want e g) ≠ .bad := hb
    show stepQ sd C' (runDraw sd C' l ut bt) b ts e n h u dst o (want e g) = stepQ sd C (runDraw sd C l ut bt) b ts e n h u dst o (want e g)
    revert hb'
    cases want e g with
    | bad => intro _; rfl
    | ok t =>
      cases t with
      | false => intro hb'; exact runDraw_le hC hb'
      | true =>
        intro hb'
        have hb2 : drawK sd (runDraw sd C l ut bt) ts e n h u dst o (opP C b e n h o) ≠ .bad := hb'
        show drawK sd (runDraw sd C' l ut bt) ts e n h u dst o (opP C' b e n h o) = drawK sd (runDraw sd C l ut bt) ts e n h u dst o (opP C b e n h o)
        rw [opP_le hC (fun e1 => hb2 (by rw [e1]; rfl))]
        revert hb2
        cases opP C b e n h o with
        | bad => intro _; rfl
        | ok d n1 h1 =>
          intro hb2
          show Bool.rec (motive := fun _ => Re) .bad (runDraw sd C' l ut bt ((touchR e n o h h1,writR o (touchR e n o h h1) h h1) :: ts) (putE e dst d) (Nat.succ n1) h1) (Bool.and (Nat.ble n n1) (apartAll (touchR e n o h h1,writR o (touchR e n o h h1) h h1) ts u)) = Bool.rec (motive := fun _ => Re) .bad (runDraw sd C l ut bt ((touchR e n o h h1,writR o (touchR e n o h h1) h h1) :: ts) (putE e dst d) (Nat.succ n1) h1) (Bool.and (Nat.ble n n1) (apartAll (touchR e n o h h1,writR o (touchR e n o h h1) h h1) ts u))
          replace hb2 : Bool.rec (motive := fun _ => Re) .bad (runDraw sd C l ut bt ((touchR e n o h h1,writR o (touchR e n o h h1) h h1) :: ts) (putE e dst d) (Nat.succ n1) h1) (Bool.and (Nat.ble n n1) (apartAll (touchR e n o h h1,writR o (touchR e n o h h1) h h1) ts u)) ≠ .bad := hb2
          revert hb2
          cases Bool.and (Nat.ble n n1) (apartAll (touchR e n o h h1,writR o (touchR e n o h h1) h h1) ts u) with
          | false => intro _; rfl
          | true => intro hb2; exact runDraw_le hC hb2

inductive RQ where
  | bad
  | ok (x : Ex) (E : QE) (n : Nat) (h : Hps)
def RelR (r : RQ) (q : Re) : Prop := match r with
  | .bad => True
  | .ok x E n h => ∃ e,q = .ok x e n h ∧ Rl E e
structure QOper where
  dst : Option SL
  g : Option (SL × Bool)
  op : QOp
noncomputable def QOper.d (o : QOper) : DOper := .op (o.dst.map SL.p) (o.g.map fun p => (p.1.p,p.2)) o.op.o
noncomputable def o1 (x : SL) (o : QOp) : QOper := ⟨some x,none,o⟩
noncomputable def o0 (o : QOp) : QOper := ⟨none,none,o⟩
noncomputable def o2 (x g : SL) (b : Bool) (o : QOp) : QOper := ⟨some x,some (g,b),o⟩
noncomputable def o3 (g : SL) (b : Bool) (o : QOp) : QOper := ⟨none,some (g,b),o⟩
noncomputable def putq (x : Option SL) (d : D) (E : QE) : QE := @Option.rec SL (fun _ => D → QE → QE) (fun _ E => E) (fun x d E => x.s d E) x d E
theorem putq_rl {x : Option SL} {d : D} {E : QE} {e : Tr} (r : Rl E e) : Rl (putq x d E) (putE e (x.map SL.p) d) := by
  cases x with
  | none => exact r
  | some x => exact r.put x d
noncomputable def wantq (E : QE) (g : Option (SL × Bool)) : OB := @Option.rec (SL × Bool) (fun _ => QE → OB) (fun _ => .ok true) (fun p E => wantB p.2 (p.1.g E)) g E
theorem wantq_eq {g : Option (SL × Bool)} {E : QE} {e : Tr} (r : Rl E e) : wantq E g = want e (g.map fun p => (p.1.p,p.2)) := by
  cases g with
  | none => rfl
  | some p => show wantB p.2 (p.1.g E) = wantB p.2 (get p.1.p e); rw [r.get]
noncomputable def afterq (K : QE → Nat → Hps → RQ) (E : QE) (dst : Option SL) (r : Rd) : RQ := @Rd.rec (fun _ => (QE → Nat → Hps → RQ) → QE → Option SL → RQ) (fun _ _ _ => .bad) (fun d n h K E dst => K (putq dst d E) (n + 1) h) r K E dst
noncomputable def runq (C : CallF) (l : List QOper) (E : QE) (n : Nat) (h : Hps) : RQ :=
  (@List.rec QOper (fun _ => CallF → QE → Nat → Hps → RQ) (fun _ E n h => .ok .normal E n h)
    (fun o _ ih C E n h => @OB.rec (fun _ => RQ) .bad (fun b => Bool.rec (motive := fun _ => RQ) (ih C (putq o.dst (.tup []) E) (n + 1) h) (afterq (ih C) E o.dst (o.op.f C E n h)) b) (wantq E o.g)) l) C E n h
theorem runq_rl {C : CallF} : ∀ {l : List QOper} {E : QE} {e : Tr} {n : Nat} {h : Hps},Rl E e → RelR (runq C l E n h) (runOps C (l.map QOper.d) e n h)
  | [],E,e,n,h,r => ⟨e,rfl,r⟩
  | o :: l,E,e,n,h,r => by
    show RelR (@OB.rec (fun _ => RQ) .bad (fun b => Bool.rec (motive := fun _ => RQ) (runq C l (putq o.dst (.tup []) E) (n + 1) h) (afterq (runq C l) E o.dst (o.op.f C E n h)) b) (wantq E o.g)) (stepW C (runOps C (l.map QOper.d)) e n h (o.dst.map SL.p) o.op.o (want e (o.g.map fun p => (p.1.p,p.2))))
    rw [wantq_eq r]
    cases want e (o.g.map fun p => (p.1.p,p.2)) with
    | bad => trivial
    | ok b =>
      cases b with
      | false => exact runq_rl (putq_rl r)
      | true =>
        show RelR (afterq (runq C l) E o.dst (o.op.f C E n h)) (afterOp (runOps C (l.map QOper.d)) e (o.dst.map SL.p) (opC C e n h o.op.o))
        rw [o.op.ok C E e n h r]
        cases opC C e n h o.op.o with
        | bad => trivial
        | ok d n1 h1 => exact runq_rl (putq_rl r)
noncomputable def drawq (sd : Nat) (C : CallF) (l : List QOper) (un : List (List Nat)) (bar : List Bool) (ts : List TW) (E : QE) (n : Nat) (h : Hps) : RQ :=
  (@List.rec QOper (fun _ => Nat → CallF → List (List Nat) → List Bool → List TW → QE → Nat → Hps → RQ) (fun _ _ _ _ _ E n h => .ok .normal E n h)
    (fun o _ ih sd C un bar ts E n h => @List.rec (List Nat) (fun _ => RQ) .bad (fun u ut _ => @List.rec Bool (fun _ => RQ) .bad (fun b bt _ => @OB.rec (fun _ => RQ) .bad (fun t => Bool.rec (motive := fun _ => RQ)
      (ih sd C ut bt (([],fun _ => false) :: ts) (putq o.dst (.tup []) E) (Nat.succ n) h)
      (@Rd.rec (fun _ => RQ) .bad (fun d n1 h1 => (fun T => Bool.rec (motive := fun _ => RQ) .bad (ih sd C ut bt ((T,writR o.op.o T h h1) :: ts) (putq o.dst d E) (Nat.succ n1) h1) (Bool.and (Nat.ble n n1) (apartAll (T,writR o.op.o T h h1) ts u))) (o.op.t E n h h1)) (o.op.p C b E n h)) t) (wantq E o.g)) bar) un) l) sd C un bar ts E n h
theorem drawq_rl {sd : Nat} {C : CallF} : ∀ {l : List QOper} {un : List (List Nat)} {bar : List Bool} {ts : List TW} {E : QE} {e : Tr} {n : Nat} {h : Hps},Rl E e → RelR (drawq sd C l un bar ts E n h) (runDraw sd C (l.map QOper.d) un bar ts e n h)
  | [],_,_,_,E,e,n,h,r => ⟨e,rfl,r⟩
  | _ :: _,[],_,_,_,_,_,_,_ => trivial
  | _ :: _,_ :: _,[],_,_,_,_,_,_ => trivial
  | o :: l,u :: ut,b :: bt,ts,E,e,n,h,r => by
    show RelR (@OB.rec (fun _ => RQ) .bad (fun t => Bool.rec (motive := fun _ => RQ)
      (drawq sd C l ut bt (([],fun _ => false) :: ts) (putq o.dst (.tup []) E) (Nat.succ n) h)
      (@Rd.rec (fun _ => RQ) .bad (fun d n1 h1 => Bool.rec (motive := fun _ => RQ) .bad (drawq sd C l ut bt ((o.op.t E n h h1,writR o.op.o (o.op.t E n h h1) h h1) :: ts) (putq o.dst d E) (Nat.succ n1) h1) (Bool.and (Nat.ble n n1) (apartAll (o.op.t E n h h1,writR o.op.o (o.op.t E n h h1) h h1) ts u))) (o.op.p C b E n h)) t) (wantq E o.g))
      (stepQ sd C (runDraw sd C (l.map QOper.d) ut bt) b ts e n h u (o.dst.map SL.p) o.op.o (want e (o.g.map fun p => (p.1.p,p.2))))
    rw [wantq_eq r]
    cases want e (o.g.map fun p => (p.1.p,p.2)) with
    | bad => trivial
    | ok t =>
      cases t with
      | false => exact drawq_rl (putq_rl r)
      | true =>
        show RelR (@Rd.rec (fun _ => RQ) .bad (fun d n1 h1 => Bool.rec (motive := fun _ => RQ) .bad (drawq sd C l ut bt ((o.op.t E n h h1,writR o.op.o (o.op.t E n h h1) h h1) :: ts) (putq o.dst d E) (Nat.succ n1) h1) (Bool.and (Nat.ble n n1) (apartAll (o.op.t E n h h1,writR o.op.o (o.op.t E n h h1) h h1) ts u))) (o.op.p C b E n h)) (drawK sd (runDraw sd C (l.map QOper.d) ut bt) ts e n h u (o.dst.map SL.p) o.op.o (opP C b e n h o.op.o))
        rw [o.op.okp C b E e n h r]
        cases opP C b e n h o.op.o with
        | bad => trivial
        | ok d n1 h1 =>
          show RelR (Bool.rec (motive := fun _ => RQ) .bad (drawq sd C l ut bt ((o.op.t E n h h1,writR o.op.o (o.op.t E n h h1) h h1) :: ts) (putq o.dst d E) (Nat.succ n1) h1) (Bool.and (Nat.ble n n1) (apartAll (o.op.t E n h h1,writR o.op.o (o.op.t E n h h1) h h1) ts u))) (Bool.rec (motive := fun _ => Re) .bad (runDraw sd C (l.map QOper.d) ut bt ((touchR e n o.op.o h h1,writR o.op.o (touchR e n o.op.o h h1) h h1) :: ts) (putE e (o.dst.map SL.p) d) (Nat.succ n1) h1) (Bool.and (Nat.ble n n1) (apartAll (touchR e n o.op.o h h1,writR o.op.o (touchR e n o.op.o h h1) h h1) ts u)))
          rw [o.op.okt E e n h h1 r]
          cases Bool.and (Nat.ble n n1) (apartAll (touchR e n o.op.o h h1,writR o.op.o (touchR e n o.op.o h h1) h h1) ts u) with
          | false => trivial
          | true => exact drawq_rl (putq_rl r)

structure QC where
  f : CallF → Nat → QE → Nat → Hps → RQ
  c : DCode
  ok : ∀ (F : Nat → DFn) C lf E e n h,CLe C (callX F (LX F)) → Rl E e → RelR (f C lf E n h) (LX F c e n h)
theorem RelR.to {r : RQ} {q q' : Re} (h : RelR r q) (hq : q ≠ .bad → q' = q) : RelR r q' := by
  cases r with
  | bad => trivial
  | ok x E n h1 =>
    obtain ⟨e,he,hr⟩ := h
    exact ⟨e,by rw [hq (by rw [he]; exact fun h => by cases h)]; exact he,hr⟩
noncomputable def qReg (l : List QOper) : QC := ⟨fun C _ E n h => runq C l E n h,.reg (l.map QOper.d),fun F C lf E e n h hC r => by
  rw [LX_eq]
  exact (runq_rl r).to (fun hb => runOps_le hC hb)⟩
noncomputable def qDraw (un : List (List Nat)) (bar : List Bool) (l : List QOper) : QC := ⟨fun C _ E n h => drawq (strideH h) C l un bar [] E n h,.draw un bar (l.map QOper.d),fun F C lf E e n h hC r => by
  rw [LX_eq]
  exact (drawq_rl r).to (fun hb => runDraw_le hC hb)⟩
noncomputable def qSkip : QC := ⟨fun _ _ E n h => .ok .normal E n h,.skip,fun F C lf E e n h _ r => by rw [LX_eq]; exact ⟨e,rfl,r⟩⟩
noncomputable def qRet : QC := ⟨fun _ _ E n h => .ok .ret E n h,.ret,fun F C lf E e n h _ r => by rw [LX_eq]; exact ⟨e,rfl,r⟩⟩
noncomputable def qExit (i : Nat) : QC := ⟨fun _ _ E n h => .ok (.exit i) E n h,.exit i,fun F C lf E e n h _ r => by rw [LX_eq]; exact ⟨e,rfl,r⟩⟩
noncomputable def thenq (K : QE → Nat → Hps → RQ) (r : RQ) : RQ := @RQ.rec (fun _ => (QE → Nat → Hps → RQ) → RQ) (fun _ => .bad) (fun x E n h K => @Ex.rec (fun _ => RQ) (K E n h) (fun i => .ok (.exit i) E n h) (.ok .ret E n h) x) r K
theorem thenq_rl {F : Nat → DFn} {K : QE → Nat → Hps → RQ} {b : DCode} (hK : ∀ E e n h,Rl E e → RelR (K E n h) (LX F b e n h)) {r : RQ} {q : Re} (hr : RelR r q) : RelR (thenq K r) (seqR (LX F) b q) := by
  cases r with
  | bad => trivial
  | ok x E n h =>
    obtain ⟨e,rfl,hrl⟩ := hr
    cases x with
    | normal => exact hK E e n h hrl
    | exit i => exact ⟨e,rfl,hrl⟩
    | ret => exact ⟨e,rfl,hrl⟩
noncomputable def qSeq (a b : QC) : QC := ⟨fun C lf E n h => thenq (b.f C lf) (a.f C lf E n h),.seq a.c b.c,fun F C lf E e n h hC r => by
  rw [LX_eq]
  exact thenq_rl (fun E e n h r => b.ok F C lf E e n h hC r) (a.ok F C lf E e n h hC r)⟩
noncomputable def qCond (x : QO) (a b : QC) : QC := ⟨fun C lf E n h => condDq (x.g E) (a.f C lf E n h) (b.f C lf E n h) .bad,.cond x.o a.c b.c,fun F C lf E e n h hC r => by
  rw [LX_eq]
  show RelR (condDq (x.g E) (a.f C lf E n h) (b.f C lf E n h) .bad) (condR (LX F) a.c b.c e n h (ev e x.o))
  rw [x.ok E e r]
  cases ev e x.o with
  | bool t => cases t with
    | false => exact b.ok F C lf E e n h hC r
    | true => exact a.ok F C lf E e n h hC r
  | _ => trivial⟩
noncomputable def blockq (i : Nat) (r : RQ) : RQ := @RQ.rec (fun _ => Nat → RQ) (fun _ => .bad) (fun x E n h i => @Ex.rec (fun _ => RQ) (.ok .normal E n h) (fun j => Bool.rec (motive := fun _ => RQ) (.ok (.exit j) E n h) (.ok .normal E n h) (Nat.beq j i)) (.ok .ret E n h) x) r i
theorem blockq_rl {i : Nat} {r : RQ} {q : Re} (hr : RelR r q) : RelR (blockq i r) (blockR i q) := by
  cases r with
  | bad => trivial
  | ok x E n h =>
    obtain ⟨e,rfl,hrl⟩ := hr
    cases x with
    | normal => exact ⟨e,rfl,hrl⟩
    | ret => exact ⟨e,rfl,hrl⟩
    | exit j =>
      show RelR (Bool.rec (motive := fun _ => RQ) (.ok (.exit j) E n h) (.ok .normal E n h) (Nat.beq j i)) (Bool.rec (motive := fun _ => Re) (.ok (.exit j) e n h) (.ok .normal e n h) (Nat.beq j i))
      cases Nat.beq j i with
      | false => exact ⟨e,rfl,hrl⟩
      | true => exact ⟨e,rfl,hrl⟩
noncomputable def qBlock (i : Nat) (b : QC) : QC := ⟨fun C lf E n h => blockq i (b.f C lf E n h),.block i b.c,fun F C lf E e n h hC r => by
  rw [LX_eq]
  exact blockq_rl (b.ok F C lf E e n h hC r)⟩
noncomputable def loopq (b : CallF → Nat → QE → Nat → Hps → RQ) (k : Nat) (C : CallF) (lf : Nat) (E : QE) (n : Nat) (h : Hps) : RQ :=
  (Nat.rec (motive := fun _ => QE → Nat → Hps → RQ) (fun _ _ _ => .bad) (fun _ ih E n h => thenq ih (b C lf E n h)) k) E n h
theorem loopq_rl {F : Nat → DFn} {C : CallF} {lf : Nat} (b : QC) (hC : CLe C (callX F (LX F))) : ∀ {k : Nat} {E : QE} {e : Tr} {n : Nat} {h : Hps},Rl E e → RelR (loopq b.f k C lf E n h) (LX F (.loop b.c) e n h)
  | 0,_,_,_,_,_ => trivial
  | k + 1,E,e,n,h,r => by
    rw [LX_eq]
    show RelR (thenq (loopq b.f k C lf) (b.f C lf E n h)) (seqR (LX F) (.loop b.c) (LX F b.c e n h))
    exact thenq_rl (fun E e n h r => loopq_rl b hC r) (b.ok F C lf E e n h hC r)
noncomputable def qLoop (b : QC) : QC := ⟨fun C lf E n h => loopq b.f lf C lf E n h,.loop b.c,fun F C lf E e n h hC r => loopq_rl b hC r⟩
noncomputable def qScope (b : QC) : QC := ⟨fun C lf E n h => b.f C lf E n h,.scope b.c,fun F C lf E e n h hC r => by rw [LX_eq]; exact b.ok F C lf E e n h hC r⟩
noncomputable def aswRq (r : SL) (E : QE) (q : Rd) : RQ := @Rd.rec (fun _ => RQ) .bad (fun _ n h => .ok .ret (r.s (.bool true) E) (Nat.succ n) h) q
noncomputable def aswIq (tp : Nat) (r : SL) (E : QE) (n : Nat) (h : Hps) (d b : D) : RQ := match b with
  | .iface t' p => Bool.rec (motive := fun _ => RQ) .bad (aswRq r E (storeD true 2 d n h p)) (Bool.and (Nat.beq tp t') (plain2 d))
  | _ => .bad
noncomputable def aswDq (t tp : Nat) (r : SL) (E : QE) (n : Nat) (h : Hps) (a b : D) : RQ := match a with
  | .nili => .ok .ret (r.s (.bool false) E) n h
  | .iface t' d => Bool.rec (motive := fun _ => RQ) .bad (aswIq tp r E n h d b) (Nat.beq t t')
  | _ => .bad
theorem aswDq_rel {t tp : Nat} {r : SL} {E : QE} {e : Tr} (hr : Rl E e) {n : Nat} {h : Hps} {a b : D} : RelR (aswDq t tp r E n h a b) (aswD t tp r.p e n h a b) := by
  cases a with
  | nili => exact ⟨_,rfl,hr.put r _⟩
  | iface t' d =>
    show RelR (Bool.rec (motive := fun _ => RQ) .bad (aswIq tp r E n h d b) (Nat.beq t t')) (Bool.rec (motive := fun _ => Re) .bad (aswI tp r.p e n h d b) (Nat.beq t t'))
    cases Nat.beq t t' with
    | false => trivial
    | true =>
      cases b with
      | iface t2 p =>
        show RelR (Bool.rec (motive := fun _ => RQ) .bad (aswRq r E (storeD true 2 d n h p)) (Bool.and (Nat.beq tp t2) (plain2 d))) (Bool.rec (motive := fun _ => Re) .bad (aswR r.p e (storeD true 2 d n h p)) (Bool.and (Nat.beq tp t2) (plain2 d)))
        cases Bool.and (Nat.beq tp t2) (plain2 d) with
        | false => trivial
        | true =>
          show RelR (aswRq r E (storeD true 2 d n h p)) (aswR r.p e (storeD true 2 d n h p))
          cases storeD true 2 d n h p with
          | bad => trivial
          | ok d1 n1 h1 => exact ⟨_,rfl,hr.put r _⟩
      | _ => trivial
  | _ => trivial
noncomputable def qAsw (t tp : Nat) (a b r : SL) : QC := ⟨fun _ _ E n h => aswDq t tp r E n h (a.g E) (b.g E),.asw t tp a.p b.p r.p,fun F C lf E e n h _ hr => by
  rw [LX_eq]
  show RelR (aswDq t tp r E n h (a.g E) (b.g E)) (aswD t tp r.p e n h (get a.p e) (get b.p e))
  rw [← hr.get a,← hr.get b]
  exact aswDq_rel hr⟩
noncomputable def qNone (c : DCode) : QC := ⟨fun _ _ _ _ _ => .bad,c,fun _ _ _ _ _ _ _ _ _ => trivial⟩

noncomputable def onlyq (us : List SL) (E : QE) : QE := (@List.rec SL (fun _ => QE → QE) (fun _ => QE0) (fun x _ ih E => x.s (x.g E) (ih E)) us) E
theorem onlyq_rl {E : QE} {e : Tr} (r : Rl E e) : ∀ {us : List SL},Rl (onlyq us E) (onlyT (us.map SL.p) e)
  | [] => Rl.nil
  | x :: us => by
    show Rl (x.s (x.g E) (onlyq us E)) (putT x.p (get x.p e) (onlyT (us.map SL.p) e))
    rw [r.get]
    exact (onlyq_rl r).put x _
noncomputable def sameEq (us : List SL) (E E' : QE) : Bool := (@List.rec SL (fun _ => QE → QE → Bool) (fun _ _ => true) (fun x _ ih E E' => Bool.and (sameD 100 (x.g E) (x.g E')) (ih E E')) us) E E'
theorem sameEq_eq {E E' : QE} {e e' : Tr} (r : Rl E e) (r' : Rl E' e') : ∀ {us : List SL},sameEq us E E' = sameT (us.map SL.p) e e'
  | [] => rfl
  | x :: us => by
    show Bool.and (sameD 100 (x.g E) (x.g E')) (sameEq us E E') = Bool.and (sameD 100 (get x.p e) (get x.p e')) (sameT (us.map SL.p) e e')
    rw [r.get,r'.get,sameEq_eq r r']
noncomputable def lowEq (us : List SL) (n : Nat) (E : QE) : Bool := (@List.rec SL (fun _ => Nat → QE → Bool) (fun _ _ => true) (fun x _ ih n E => Bool.and (Bool.not (hasRq 20 n (x.g E))) (ih n E)) us) n E
theorem lowEq_eq {E : QE} {e : Tr} {n : Nat} (r : Rl E e) : ∀ {us : List SL},lowEq us n E = lowT (us.map SL.p) n e
  | [] => rfl
  | x :: us => by
    show Bool.and (Bool.not (hasRq 20 n (x.g E))) (lowEq us n E) = Bool.and (Bool.not (hasR n 20 (get x.p e))) (lowT (us.map SL.p) n e)
    rw [r.get,hasRq_eq,lowEq_eq r]
noncomputable def roundq (us : List SL) (E0 : QE) (h2 : Hps) (ih : RQ) (r : RQ) : RQ := match r with
  | .ok .normal E2 _ h3 => Bool.rec (motive := fun _ => RQ) .bad ih (Bool.and (sameEq us E0 E2) (sameH h2 h3))
  | _ => .bad
noncomputable def roundsq (C : CallF) (lf : Nat) (asg : List QOper) (nxt : Nat) (body : QC) (pr : SL) (us : List SL) (E0 : QE) (n : Nat) (h2 : Hps) (fin : RQ) (es : List (D × D)) : RQ :=
  List.rec (motive := fun _ => RQ) fin (fun p _ ih => roundq us E0 h2 ih (blockq nxt (thenq (body.f C lf) (runq C asg (pr.s (.tup [p.1,p.2]) E0) n h2)))) es
theorem roundsq_rl {F : Nat → DFn} {C : CallF} {lf : Nat} (hC : CLe C (callX F (LX F))) {asg : List QOper} {nxt : Nat} {body : QC} {pr : SL} {us : List SL} {E0 : QE} {e0 : Tr} (r : Rl E0 e0) {n : Nat} {h2 : Hps} {fin : RQ} {fin' : Re} (hf : RelR fin fin') :
    ∀ {es : List (D × D)},RelR (roundsq C lf asg nxt body pr us E0 n h2 fin es) (rngmL F (LX F) (asg.map QOper.d) nxt body.c pr.p (us.map SL.p) e0 n h2 fin' es)
  | [] => hf
  | p :: es => by
    have ih := roundsq_rl (lf := lf) hC r hf (es := es) (asg := asg) (nxt := nxt) (body := body) (pr := pr) (us := us) (n := n) (h2 := h2)
    have h1 : RelR (blockq nxt (thenq (body.f C lf) (runq C asg (pr.s (.tup [p.1,p.2]) E0) n h2))) (rngm1 F (LX F) (asg.map QOper.d) nxt body.c pr.p e0 n h2 p) :=
      blockq_rl (thenq_rl (fun E e n h r => body.ok F C lf E e n h hC r) ((runq_rl (r.put pr _)).to (fun hb => runOps_le hC hb)))
    show RelR (roundq us E0 h2 (roundsq C lf asg nxt body pr us E0 n h2 fin es) (blockq nxt (thenq (body.f C lf) (runq C asg (pr.s (.tup [p.1,p.2]) E0) n h2)))) (rngmC (us.map SL.p) e0 h2 (rngmL F (LX F) (asg.map QOper.d) nxt body.c pr.p (us.map SL.p) e0 n h2 fin' es) (rngm1 F (LX F) (asg.map QOper.d) nxt body.c pr.p e0 n h2 p))
    revert h1
    cases blockq nxt (thenq (body.f C lf) (runq C asg (pr.s (.tup [p.1,p.2]) E0) n h2)) with
    | bad => intro _; trivial
    | ok x E2 n2 h3 =>
      rintro ⟨e2,he2,r2⟩
      rw [he2]
      cases x with
      | normal =>
        show RelR (Bool.rec (motive := fun _ => RQ) .bad (roundsq C lf asg nxt body pr us E0 n h2 fin es) (Bool.and (sameEq us E0 E2) (sameH h2 h3))) (Bool.rec (motive := fun _ => Re) .bad (rngmL F (LX F) (asg.map QOper.d) nxt body.c pr.p (us.map SL.p) e0 n h2 fin' es) (Bool.and (sameT (us.map SL.p) e0 e2) (sameH h2 h3)))
        rw [sameEq_eq r r2]
        cases Bool.and (sameT (us.map SL.p) e0 e2) (sameH h2 h3) with
        | false => trivial
        | true => exact ih
      | exit i => trivial
      | ret => trivial
noncomputable def mapq (C : CallF) (lf : Nat) (asg : List QOper) (out nxt : Nat) (body : QC) (pr : SL) (us : List SL) (E0 : QE) (n : Nat) (h : Hps) (x : D) : RQ := match x with
  | .ptr r i j => Bool.rec (motive := fun _ => RQ) .bad (match getO h r with
    | .mit q => (match getO (delO h r) q with
      | .map es => (fun h2 => Bool.rec (motive := fun _ => RQ) .bad (roundsq C lf asg nxt body pr us E0 n h2 (.ok (.exit out) E0 n ((q,.map es) :: h2)) es) (Bool.and (lowEq us n E0) (Bool.and (Bool.not (leakq n h2)) (Bool.not (obR1 n (.map es)))))) (dropFrom n (delO (delO h r) q))
      | _ => .bad)
    | _ => .bad) (Bool.and (Nat.beq i 0) (Nat.beq j 0))
  | _ => .bad
noncomputable def qMap (it : SL) (us : List SL) (pr : SL) (out nxt : Nat) (asg : List QOper) (body : QC) : QC :=
  ⟨fun C lf E n h => (fun E0 => mapq C lf asg out nxt body pr us E0 n h (it.g E0)) (onlyq us E),.rngm it.p (us.map SL.p) pr.p out nxt (asg.map QOper.d) body.c,fun F C lf E e n h hC r => by
    rw [LX_eq]
    have r0 := onlyq_rl r (us := us)
    show RelR (mapq C lf asg out nxt body pr us (onlyq us E) n h (it.g (onlyq us E))) (rngmF F (LX F) (asg.map QOper.d) out nxt body.c pr.p (us.map SL.p) (onlyT (us.map SL.p) e) n h (get it.p (onlyT (us.map SL.p) e)))
    rw [r0.get]
    cases get it.p (onlyT (us.map SL.p) e) with
    | ptr q i j =>
      show RelR (Bool.rec (motive := fun _ => RQ) .bad _ (Bool.and (Nat.beq i 0) (Nat.beq j 0))) (Bool.rec (motive := fun _ => Re) .bad (rngmI F (LX F) (asg.map QOper.d) out nxt body.c pr.p (us.map SL.p) (onlyT (us.map SL.p) e) n q h (getO h q)) (Bool.and (Nat.beq i 0) (Nat.beq j 0)))
      cases Bool.and (Nat.beq i 0) (Nat.beq j 0) with
      | false => trivial
      | true =>
        show RelR (match getO h q with | .mit q2 => _ | _ => .bad) (rngmI F (LX F) (asg.map QOper.d) out nxt body.c pr.p (us.map SL.p) (onlyT (us.map SL.p) e) n q h (getO h q))
        cases getO h q with
        | mit q2 =>
          show RelR (match getO (delO h q) q2 with | .map es => _ | _ => .bad) (rngmE F (LX F) (asg.map QOper.d) out nxt body.c pr.p (us.map SL.p) (onlyT (us.map SL.p) e) n q2 (dropFrom n (delO (delO h q) q2)) (getO (delO h q) q2))
          cases getO (delO h q) q2 with
          | map es =>
            show RelR (Bool.rec (motive := fun _ => RQ) .bad (roundsq C lf asg nxt body pr us (onlyq us E) n (dropFrom n (delO (delO h q) q2)) (.ok (.exit out) (onlyq us E) n ((q2,.map es) :: dropFrom n (delO (delO h q) q2))) es) (Bool.and (lowEq us n (onlyq us E)) (Bool.and (Bool.not (leakq n (dropFrom n (delO (delO h q) q2)))) (Bool.not (obR1 n (.map es))))))
              (Bool.rec (motive := fun _ => Re) .bad (rngmL F (LX F) (asg.map QOper.d) nxt body.c pr.p (us.map SL.p) (onlyT (us.map SL.p) e) n (dropFrom n (delO (delO h q) q2)) (.ok (.exit out) (onlyT (us.map SL.p) e) n ((q2,.map es) :: dropFrom n (delO (delO h q) q2))) es) (Bool.and (lowT (us.map SL.p) n (onlyT (us.map SL.p) e)) (Bool.and (Bool.not (leak n (dropFrom n (delO (delO h q) q2)))) (Bool.not (obR1 n (.map es))))))
            rw [lowEq_eq r0,leakq_eq]
            cases Bool.and (lowT (us.map SL.p) n (onlyT (us.map SL.p) e)) (Bool.and (Bool.not (leak n (dropFrom n (delO (delO h q) q2)))) (Bool.not (obR1 n (.map es)))) with
            | false => trivial
            | true => exact roundsq_rl hC r0 (show RelR (.ok (.exit out) (onlyq us E) n ((q2,.map es) :: dropFrom n (delO (delO h q) q2))) (.ok (.exit out) (onlyT (us.map SL.p) e) n ((q2,.map es) :: dropFrom n (delO (delO h q) q2))) from ⟨_,rfl,r0⟩)
          | _ => trivial
        | _ => trivial
    | _ => trivial⟩

noncomputable def stepC (C : CallF) (X : RunF) (c : DCode) (e : Tr) (n : Nat) (h : Hps) : Re := match c with
  | .asw t tp a b r => aswD t tp r e n h (get a e) (get b e)
  | .skip => .ok .normal e n h
  | .ret => .ok .ret e n h
  | .bad => .bad
  | .exit i => .ok (.exit i) e n h
  | .seq a b => seqR X b (X a e n h)
  | .cond c a b => condR X a b e n h (ev e c)
  | .block i b => blockR i (X b e n h)
  | .loop b => seqR X (.loop b) (X b e n h)
  | .scope b => X b e n h
  | .reg ops => runOps C ops e n h
  | .draw un bar ops => runDraw (strideH h) C ops un bar [] e n h
  | .rng _ _ _ _ => .bad
  | .rngm _ _ _ _ _ _ _ => .bad
noncomputable def execC (C : CallF) (fuel : Nat) : RunF := Nat.rec (motive := fun _ => RunF) (fun _ _ _ _ => .bad) (fun _ X => stepC C X) fuel
def XLe (X X' : RunF) : Prop := ∀ c e n h,X c e n h ≠ .bad → X' c e n h = X c e n h
theorem seqE_le {X X' : RunF} (hX : XLe X X') {b : DCode} {e : Tr} {n : Nat} {h : Hps} : ∀ {x : Ex},seqE X b e n h x ≠ .bad → seqE X' b e n h x = seqE X b e n h x
  | .normal,hb => hX _ _ _ _ hb
  | .exit _,_ => rfl
  | .ret,_ => rfl
theorem seqR_le {X X' : RunF} (hX : XLe X X') {b c : DCode} {e : Tr} {n : Nat} {h : Hps} (hb : seqR X b (X c e n h) ≠ .bad) : seqR X' b (X' c e n h) = seqR X b (X c e n h) := by
  have h1 : X c e n h ≠ .bad := fun e1 => hb (by rw [e1]; rfl)
  rw [hX _ _ _ _ h1]
  revert hb
  cases X c e n h with
  | bad => intro _; rfl
  | ok x e1 n1 h2 => intro hb; exact seqE_le hX hb
theorem blockR_le {X X' : RunF} (hX : XLe X X') {i : Nat} {c : DCode} {e : Tr} {n : Nat} {h : Hps} (hb : blockR i (X c e n h) ≠ .bad) : blockR i (X' c e n h) = blockR i (X c e n h) := by
  have h1 : X c e n h ≠ .bad := fun e1 => hb (by rw [e1]; rfl)
  rw [hX _ _ _ _ h1]
theorem execC_le {F : Nat → DFn} {C : CallF} (hC : CLe C (callX F (LX F))) : ∀ k,XLe (execC C k) (LX F)
  | 0 => fun _ _ _ _ hb => absurd rfl hb
  | k + 1 => by
    intro c e n h hb
    have ih := execC_le hC k
    rw [LX_eq]
    replace hb : stepC C (execC C k) c e n h ≠ .bad := hb
    show step F (LX F) c e n h = stepC C (execC C k) c e n h
    cases c with
    | seq a b => exact seqR_le ih hb
    | loop b => exact seqR_le ih hb
    | block i b => exact blockR_le ih hb
    | scope b => exact ih _ _ _ _ hb
    | cond c a b =>
      replace hb : condR (execC C k) a b e n h (ev e c) ≠ .bad := hb
      show condR (LX F) a b e n h (ev e c) = condR (execC C k) a b e n h (ev e c)
      revert hb
      cases ev e c with
      | bool t => intro hb; exact ih _ _ _ _ hb
      | _ => intro _; rfl
    | reg ops => exact runOps_le hC hb
    | draw un bar ops => exact runDraw_le hC hb
    | rng _ _ _ _ => exact absurd rfl hb
    | rngm _ _ _ _ _ _ _ => exact absurd rfl hb
    | _ => rfl
theorem lastRound_le {X X' : RunF} (hX : XLe X X') {r k : Nat} {env : Tr} {ps : List Po} {a b : DCode} {e : Tr} {n : Nat} {h : Hps} (hb : lastRound r k env ps a b (X b e n h) ≠ .bad) : lastRound r k env ps a b (X' b e n h) = lastRound r k env ps a b (X b e n h) := by
  have h1 : X b e n h ≠ .bad := fun e1 => hb (by rw [e1]; rfl)
  rw [hX _ _ _ _ h1]
theorem round_le {X X' : RunF} (hX : XLe X X') {r n : Nat} {h : Hps} {args : List D} {o : Ob} (hb : round X r n h args o ≠ .bad) : round X' r n h args o = round X r n h args o := by
  cases o with
  | loop k env ps a b j =>
    replace hb : ifR (isSkip j) (begRound X r k n h env ps a b (putAll ps args env)) ≠ .bad := hb
    show ifR (isSkip j) (begRound X' r k n h env ps a b (putAll ps args env)) = ifR (isSkip j) (begRound X r k n h env ps a b (putAll ps args env))
    revert hb
    cases isSkip j with
    | false => intro _; rfl
    | true =>
      intro hb
      replace hb : begRound X r k n h env ps a b (putAll ps args env) ≠ .bad := hb
      show begRound X' r k n h env ps a b (putAll ps args env) = begRound X r k n h env ps a b (putAll ps args env)
      revert hb
      cases putAll ps args env with
      | bad => intro _; rfl
      | ok x0 e0 n0 h0 =>
        intro hb
        replace hb : midRound X r k env ps a b (X a e0 n (delO h r)) ≠ .bad := hb
        show midRound X' r k env ps a b (X' a e0 n (delO h r)) = midRound X r k env ps a b (X a e0 n (delO h r))
        have h1 : X a e0 n (delO h r) ≠ .bad := fun e1 => hb (by rw [e1]; rfl)
        rw [hX _ _ _ _ h1]
        revert hb
        cases X a e0 n (delO h r) with
        | bad => intro _; rfl
        | ok x e1 n1 h2 =>
          cases x with
          | normal => intro hb; exact lastRound_le hX hb
          | exit i => intro _; rfl
          | ret => intro _; rfl
  | _ => exact absurd rfl hb
noncomputable def cutq (E : QE) : Tr := putT .h (x0.g E) (putT (.o .h) (x1.g E) (putT (.i .h) (x2.g E) (putT (.o (.o .h)) (x3.g E) (putT (.i (.o .h)) (x4.g E) (putT (.o (.i .h)) (x5.g E) (putT (.i (.i .h)) (x6.g E) (putT (.o (.o (.o .h))) (x7.g E) (putT (.i (.o (.o .h))) (x8.g E) (putT (.o (.i (.o .h))) (x9.g E) (putT (.i (.i (.o .h))) (x10.g E) (putT (.o (.o (.i .h))) (x11.g E) .lf)))))))))))
theorem cutq_eq {E : QE} {e : Tr} (r : Rl E e) : cutq E = onlyT rngUs e := by
  unfold cutq
  rw [r.get x0,r.get x1,r.get x2,r.get x3,r.get x4,r.get x5,r.get x6,r.get x7,r.get x8,r.get x9,r.get x10,r.get x11]
  rfl
noncomputable def afterJq (E : QE) (n : Nat) (h : Hps) : Jp → RQ
  | .none => .ok .normal E n h
  | .exit i => .ok (.exit i) E n h
  | .ret => .ok .ret E n h
noncomputable def afterRq (E : QE) (r n : Nat) (h : Hps) : Ob → RQ
  | .loop _ _ _ _ _ j => afterJq E n (delO h r) j
  | _ => .bad
noncomputable def rngKq (E : QE) (r : Nat) (x : Rd) : RQ := match x with
  | .ok _ n h => afterRq E r n h (getOq h r)
  | .bad => .bad
noncomputable def rngq (C : CallF) (E : QE) (n : Nat) (h : Hps) (ps : List Po) (a b : DCode) (f : D) : RQ := match f with
  | .fn g x c => rngKq E n (C (n + 1) ((n,.loop n (cutq E) ps a b .none) :: h) (.fn g x c) [.yld n])
  | _ => .bad
noncomputable def qRng (f : QO) (ps : List Po) (a b : DCode) : QC :=
  ⟨fun C _ E n h => rngq C E n h ps a b (f.g E),.rng f.o ps a b,fun F C lf E e n h hC r => by
    rw [LX_eq]
    show RelR (rngq C E n h ps a b (f.g E)) (rngF F (LX F) e n h ps a b (ev e f.o))
    rw [f.ok E e r]
    cases ev e f.o with
    | fn g x c =>
      show RelR (rngKq E n (C (n + 1) ((n,.loop n (cutq E) ps a b .none) :: h) (.fn g x c) [.yld n])) (rngK e n (callFn (LX F) (n + 1) ((n,.loop n (onlyT rngUs e) ps a b .none) :: h) (appL x (.yld n :: c)) (F g)))
      rw [cutq_eq r]
      by_cases hb : C (n + 1) ((n,.loop n (onlyT rngUs e) ps a b .none) :: h) (.fn g x c) [.yld n] = .bad
      · rw [hb]; trivial
      · have h1 : callFn (LX F) (n + 1) ((n,.loop n (onlyT rngUs e) ps a b .none) :: h) (appL x (.yld n :: c)) (F g) = C (n + 1) ((n,.loop n (onlyT rngUs e) ps a b .none) :: h) (.fn g x c) [.yld n] := hC _ _ _ _ hb
        rw [h1]
        cases C (n + 1) ((n,.loop n (onlyT rngUs e) ps a b .none) :: h) (.fn g x c) [.yld n] with
        | bad => trivial
        | ok d n1 h1 =>
          show RelR (afterRq E n n1 h1 (getOq h1 n)) (afterRng e n n1 h1 (getO h1 n))
          rw [getOq_eq]
          cases getO h1 n with
          | loop _ _ _ _ _ j => cases j <;> exact ⟨e,rfl,r⟩
          | _ => trivial
    | _ => trivial⟩

inductive QR where
  | tmp (x : SL)
  | cell (x : SL) (ag : Bool) (k : Nat)
noncomputable def QR.d : QR → RV
  | .tmp x => .tmp x.p
  | .cell x ag k => .cell x.p ag k
noncomputable def res1q (h : Hps) (E : QE) (r : QR) : Rd := @QR.rec (fun _ => Hps → QE → Rd) (fun x _ E => .ok (x.g E) 0 []) (fun x ag k h E => loadDq ag k 0 h (x.g E)) r h E
theorem res1q_eq {h : Hps} {E : QE} {e : Tr} (r : Rl E e) {q : QR} : res1q h E q = res1 h e q.d := by
  cases q with
  | tmp x => show Rd.ok (x.g E) 0 [] = Rd.ok (get x.p e) 0 []; rw [r.get]
  | cell x ag k => show loadDq ag k 0 h (x.g E) = loadD ag k 0 h (get x.p e); rw [loadDq_eq,r.get]
noncomputable def resLq (h : Hps) (E : QE) (l : List QR) : RL := (@List.rec QR (fun _ => Hps → QE → RL) (fun _ _ => .ok []) (fun a _ ih h E => resC (res1q h E a) (ih h E)) l) h E
theorem resLq_eq {h : Hps} {E : QE} {e : Tr} (r : Rl E e) : ∀ {l : List QR},resLq h E l = resL h e (l.map QR.d)
  | [] => rfl
  | a :: l => by show resC (res1q h E a) (resLq h E l) = resC (res1 h e a.d) (resL h e (l.map QR.d)); rw [res1q_eq r,resLq_eq r]
structure QF where
  body : QC
  ps : List SL
  res : List QR
  kp : Bool
noncomputable def QF.d (q : QF) : DFn := ⟨q.body.c,q.ps.map SL.p,q.res.map QR.d,q.kp⟩
noncomputable def finLq (kp : Bool) (n0 n : Nat) (h : Hps) (l : RL) : Rd := @RL.rec (fun _ => Rd) .bad (fun l => Bool.rec (motive := fun _ => Rd) (finishDq n0 n h (tupD l)) (keepD n0 n h (tupD l)) kp) l
noncomputable def finq (kp : Bool) (n0 : Nat) (rv : List QR) (r : RQ) : Rd := @RQ.rec (fun _ => Bool → Nat → List QR → Rd) (fun _ _ _ => .bad) (fun x E n h kp n0 rv => @Ex.rec (fun _ => Rd) (finLq kp n0 n h (resLq h E rv)) (fun _ => .bad) (finLq kp n0 n h (resLq h E rv)) x) r kp n0 rv
theorem finq_rl {kp : Bool} {n0 : Nat} {rv : List QR} {r : RQ} {q : Re} (hr : RelR r q) (hb : finq kp n0 rv r ≠ .bad) : fin kp n0 (rv.map QR.d) q = finq kp n0 rv r := by
  cases r with
  | bad => exact absurd rfl hb
  | ok x E n h =>
    obtain ⟨e,rfl,hrl⟩ := hr
    have hL : finLq kp n0 n h (resLq h E rv) = Bool.rec (motive := fun _ => Rd) (finishL n0 n h (resL h e (rv.map QR.d))) (finKL n0 n h (resL h e (rv.map QR.d))) kp := by
      rw [resLq_eq hrl]
      cases resL h e (rv.map QR.d) with
      | bad => cases kp <;> rfl
      | ok l => cases kp with
        | true => rfl
        | false => exact finishDq_eq
    cases x with
    | exit i => exact absurd rfl hb
    | normal => show fin kp n0 (rv.map QR.d) (.ok .normal e n h) = finLq kp n0 n h (resLq h E rv); rw [hL]; cases kp <;> rfl
    | ret => show fin kp n0 (rv.map QR.d) (.ok .ret e n h) = finLq kp n0 n h (resLq h E rv); rw [hL]; cases kp <;> rfl
noncomputable def argsq (l : List D) (ps : List SL) : QE := (@List.rec D (fun _ => List SL → QE) (fun _ => QE0) (fun d _ ih ps => @List.rec SL (fun _ => QE) QE0 (fun p pt _ => p.s d (ih pt)) ps) l) ps
theorem argsq_rl : ∀ {l : List D} {ps : List SL},Rl (argsq l ps) (argsT l (ps.map SL.p))
  | [],_ => Rl.nil
  | _ :: _,[] => Rl.nil
  | d :: l,p :: ps => argsq_rl.put p d
noncomputable def lenSq' (l : List SL) : Nat := List.rec (motive := fun _ => Nat) 0 (fun _ _ ih => Nat.succ ih) l
theorem lenSq'_eq {l : List SL} : lenSq' l = lenP (l.map SL.p) := by
  induction l with
  | nil => rfl
  | cons p l ih => exact congrArg Nat.succ ih
noncomputable def callFnq (C : CallF) (lf n : Nat) (h : Hps) (args : List D) (q : QF) : Rd := ifR (Nat.beq (lenL args) (lenSq' q.ps)) (finq q.kp n q.res (q.body.f C lf (argsq args q.ps) n h))
theorem callFnq_rl {F : Nat → DFn} {C : CallF} (hC : CLe C (callX F (LX F))) {lf n : Nat} {h : Hps} {args : List D} {q : QF} (hb : callFnq C lf n h args q ≠ .bad) : callFn (LX F) n h args q.d = callFnq C lf n h args q := by
  show ifR (Nat.beq (lenL args) (lenP (q.ps.map SL.p))) (fin q.kp n (q.res.map QR.d) (LX F q.body.c (argsT args (q.ps.map SL.p)) n h)) = _
  unfold callFnq at hb ⊢
  rw [← lenSq'_eq]
  revert hb
  cases Nat.beq (lenL args) (lenSq' q.ps) with
  | false => intro _; rfl
  | true => intro hb; exact finq_rl (q.body.ok F C lf _ _ n h hC argsq_rl) hb
inductive TQ where
  | lf
  | nd (l : TQ) (k : Nat) (v : QF) (r : TQ)
noncomputable def TQ.look (t : TQ) (k : Nat) (K : QF → Rd) : Rd := (@TQ.rec (fun _ => Nat → (QF → Rd) → Rd) (fun _ _ => .bad) (fun _ j v _ il ir k K => Bool.rec (motive := fun _ => Rd) (Bool.rec (motive := fun _ => Rd) (ir k K) (il k K) (Nat.blt k j)) (K v) (Nat.beq k j)) t) k K
def TQ.Ok (F : Nat → DFn) : TQ → Prop
  | .lf => True
  | .nd l k v r => l.Ok F ∧ F k = v.d ∧ r.Ok F
theorem TQ.look_ok {F : Nat → DFn} {k : Nat} {K : QF → Rd} : ∀ {t : TQ},t.Ok F → t.look k K ≠ .bad → ∃ v,F k = v.d ∧ t.look k K = K v
  | .lf,_,hb => absurd rfl hb
  | .nd l j v r,⟨h1,h2,h3⟩,hb => by
    have hb' : Bool.rec (motive := fun _ => Rd) (Bool.rec (motive := fun _ => Rd) (r.look k K) (l.look k K) (Nat.blt k j)) (K v) (Nat.beq k j) ≠ .bad := hb
    show ∃ v',F k = v'.d ∧ Bool.rec (motive := fun _ => Rd) (Bool.rec (motive := fun _ => Rd) (r.look k K) (l.look k K) (Nat.blt k j)) (K v) (Nat.beq k j) = K v'
    cases hk : Nat.beq k j with
    | true => rw [beq_eq hk]; exact ⟨v,h2,rfl⟩
    | false =>
      rw [hk] at hb'
      cases hj : Nat.blt k j with
      | true => rw [hj] at hb'; exact TQ.look_ok h1 hb'
      | false => rw [hj] at hb'; exact TQ.look_ok h3 hb'
structure ME where
  g : Nat
  n : Nat
  h : Hps
  a : List D
  r : Rd
noncomputable def memoq (M : List ME) (g n : Nat) (h : Hps) (a : List D) (K : Rd) : Rd := (@List.rec ME (fun _ => Nat → Nat → Hps → List D → Rd → Rd) (fun _ _ _ _ K => K) (fun m _ ih g n h a K => Bool.rec (motive := fun _ => Rd) (ih g n h a K) (Bool.rec (motive := fun _ => Rd) (ih g n h a K) (Bool.rec (motive := fun _ => Rd) (ih g n h a K) m.r (Bool.and (sameL (sameD 100) m.a a) (sameH m.h h))) (Nat.beq m.n n)) (Nat.beq m.g g)) M) g n h a K
def MOk (F : Nat → DFn) : List ME → Prop
  | [] => True
  | m :: M => callFn (LX F) m.n m.h m.a (F m.g) = m.r ∧ MOk F M
theorem memoq_ok {F : Nat → DFn} {g n : Nat} {h : Hps} {a : List D} {K : Rd} : ∀ {M : List ME},MOk F M → memoq M g n h a K = K ∨ callFn (LX F) n h a (F g) = memoq M g n h a K
  | [],_ => .inl rfl
  | m :: M,⟨h1,h2⟩ => by
    show Bool.rec (motive := fun _ => Rd) (memoq M g n h a K) (Bool.rec (motive := fun _ => Rd) (memoq M g n h a K) (Bool.rec (motive := fun _ => Rd) (memoq M g n h a K) m.r (Bool.and (sameL (sameD 100) m.a a) (sameH m.h h))) (Nat.beq m.n n)) (Nat.beq m.g g) = K ∨ callFn (LX F) n h a (F g) = Bool.rec (motive := fun _ => Rd) (memoq M g n h a K) (Bool.rec (motive := fun _ => Rd) (memoq M g n h a K) (Bool.rec (motive := fun _ => Rd) (memoq M g n h a K) m.r (Bool.and (sameL (sameD 100) m.a a) (sameH m.h h))) (Nat.beq m.n n)) (Nat.beq m.g g)
    cases hg : Nat.beq m.g g with
    | false => exact memoq_ok h2
    | true =>
      cases hn : Nat.beq m.n n with
      | false => exact memoq_ok h2
      | true =>
        cases hc : Bool.and (sameL (sameD 100) m.a a) (sameH m.h h) with
        | false => exact memoq_ok h2
        | true =>
          obtain ⟨e1,e2⟩ := and2 hc
          right
          rw [← beq_eq hg,← beq_eq hn,← sameL_eq (sameD_eq 100) e1,← sameH_eq e2]
          exact h1
noncomputable def cq1 (M : List ME) (T : TQ) (lf : Nat) (C : CallF) (n : Nat) (h : Hps) (f : D) (args : List D) : Rd := match f with
  | .fn g a c => memoq M g n h (appL a (appL args c)) (T.look g (callFnq C lf n h (appL a (appL args c))))
  | .yld r => round (execC C lf) r n h args (getOq h r)
  | _ => .bad
noncomputable def cq (M : List ME) (T : TQ) (lf fuel : Nat) : CallF := Nat.rec (motive := fun _ => CallF) (fun _ _ _ _ => .bad) (fun _ C => cq1 M T lf C) fuel
theorem cq_ok {F : Nat → DFn} {M : List ME} (hM : MOk F M) {T : TQ} (hT : T.Ok F) {lf : Nat} : ∀ fuel,CLe (cq M T lf fuel) (callX F (LX F))
  | 0 => fun _ _ _ _ hb => absurd rfl hb
  | fuel + 1 => by
    intro n h f args hb
    cases f with
    | fn g a c =>
      have main : T.look g (callFnq (cq M T lf fuel) lf n h (appL a (appL args c))) ≠ .bad → callFn (LX F) n h (appL a (appL args c)) (F g) = T.look g (callFnq (cq M T lf fuel) lf n h (appL a (appL args c))) := by
        intro hb'
        obtain ⟨v,h1,h2⟩ := TQ.look_ok hT hb'
        rw [h2] at hb' ⊢
        rw [h1]
        exact callFnq_rl (cq_ok hM hT fuel) hb'
      have hb' : memoq M g n h (appL a (appL args c)) (T.look g (callFnq (cq M T lf fuel) lf n h (appL a (appL args c)))) ≠ .bad := hb
      show callFn (LX F) n h (appL a (appL args c)) (F g) = memoq M g n h (appL a (appL args c)) (T.look g (callFnq (cq M T lf fuel) lf n h (appL a (appL args c))))
      rcases memoq_ok (g := g) (n := n) (h := h) (a := appL a (appL args c)) (K := T.look g (callFnq (cq M T lf fuel) lf n h (appL a (appL args c)))) hM with e | e
      · rw [e] at hb' ⊢
        exact main hb'
      · exact e
    | yld r =>
      replace hb : round (execC (cq M T lf fuel) lf) r n h args (getOq h r) ≠ .bad := hb
      show round (LX F) r n h args (getO h r) = round (execC (cq M T lf fuel) lf) r n h args (getOq h r)
      rw [getOq_eq] at hb ⊢
      exact round_le (execC_le (cq_ok hM hT fuel) lf) hb
    | _ => exact absurd rfl hb
noncomputable def runH (M : List ME) (T : TQ) (fuel f n : Nat) (h : Hps) (args : List D) : Rd := T.look f (callFnq (cq M T fuel fuel) fuel n h args)
theorem runH_ok {M : List ME} {T : TQ} {F : Nat → DFn} (hM : MOk F M) (hT : T.Ok F) {fuel f n : Nat} {h : Hps} {args : List D} {r : Rd} (hr : r ≠ .bad) (e : runH M T fuel f n h args = r) : callFn (LX F) n h args (F f) = r := by
  have hb : runH M T fuel f n h args ≠ .bad := by rw [e]; exact hr
  obtain ⟨v,h2,h3⟩ := TQ.look_ok hT (k := f) (K := callFnq (cq M T fuel fuel) fuel n h args) hb
  have h4 : callFnq (cq M T fuel fuel) fuel n h args v = r := by rw [← h3]; exact e
  rw [h2,callFnq_rl (cq_ok hM hT fuel) (by rw [h4]; exact hr)]
  exact h4
noncomputable def runQ (M : List ME) (T : TQ) (fuel f n : Nat) (args : List D) : Rd := T.look f (callFnq (cq M T fuel fuel) fuel n [] args)
theorem runQ_ok {M : List ME} {T : TQ} {F : Nat → DFn} (hM : MOk F M) (hT : T.Ok F) {fuel f n : Nat} {args : List D} {r : Rd} (hr : r ≠ .bad) (h : runQ M T fuel f n args = r) : callFn (LX F) n [] args (F f) = r := runH_ok hM hT hr h
theorem closed_runQ {M : List ME} {T : TQ} {F : Nat → DFn} (hM : MOk F M) (hT : T.Ok F) {fuel f : Nat} {args : List D} {b : Bool} (h : isB b (runQ M T fuel f 0 args) = true) : ∃ n' h',callFn (LX F) 0 [] args (F f) = .ok (.bool b) n' h' := by
  obtain ⟨n',h',h1⟩ := isB_inv h
  exact ⟨n',h',runQ_ok hM hT (fun h => by cases h) h1⟩
theorem MOk.app {F : Nat → DFn} : ∀ {M M' : List ME},MOk F M → MOk F M' → MOk F (M ++ M')
  | [],_,_,h => h
  | _ :: _,_,⟨h1,h2⟩,h => ⟨h1,MOk.app h2 h⟩
noncomputable def allQ (M : List ME) (T : TQ) (fuel f : Nat) (l : List (List D)) : Bool := (@List.rec (List D) (fun _ => Bool) true (fun a _ ih => Bool.rec (motive := fun _ => Bool) false ih (isB true (runQ M T fuel f 0 a))) l)
theorem allQ_ok {M : List ME} {T : TQ} {fuel f : Nat} : ∀ {l : List (List D)},allQ M T fuel f l = true → ∀ a,a ∈ l → isB true (runQ M T fuel f 0 a) = true
  | b :: l,h,a,ha => by
    have h1 : Bool.rec (motive := fun _ => Bool) false (allQ M T fuel f l) (isB true (runQ M T fuel f 0 b)) = true := h
    cases hb : isB true (runQ M T fuel f 0 b) with
    | false => rw [hb] at h1; cases h1
    | true =>
      rw [hb] at h1
      rcases List.mem_cons.1 ha with rfl | ha
      · exact hb
      · exact allQ_ok h1 a ha
end Go.Proofs.YtpbpmpabndgeeaaGreatDoor
