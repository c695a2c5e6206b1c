/- The run in a form that the kernel runs faster: environments are structures, each choice is the recursor itself with closed branches. It tells what the run tells. No condition. -/
import Derived.Test.YtpbpmpabndgeeaaGreatDoorA32
set_option linter.unusedSimpArgs false
set_option linter.unusedVariables false
namespace Go.Proofs.YtpbpmpabndgeeaaGreatDoor
open Go
set_option linter.unusedVariables false

noncomputable def okDq (n : Nat) (h : Hps) (d : D) : Rd := (@D.rec (fun _ => D → Nat → Hps → Rd) (fun _ => Unit) (fun _ _ _ => .bad) (fun _ _ d n h => .ok d n h) (fun _ d n h => .ok d n h) (fun _ d n h => .ok d n h) (fun d n h => .ok d n h) (fun d n h => .ok d n h) (fun d n h => .ok d n h) (fun d n h => .ok d n h) (fun d n h => .ok d n h) (fun _ _ _ d n h => .ok d n h) (fun _ _ _ d n h => .ok d n h) (fun _ _ _ _ _ _ d n h => .ok d n h) (fun _ _ _ _ _ d n h => .ok d n h) (fun _ d n h => .ok d n h) (fun _ d n h => .ok d n h) (fun _ d n h => .ok d n h) (fun _ _ _ _ _ d n h => .ok d n h) (fun _ _ _ d n h => .ok d n h) (fun _ _ d n h => .ok d n h) (fun _ _ d n h => .ok d n h) () (fun _ _ _ _ => ()) d) d n h
theorem okDq_eq {n : Nat} {h : Hps} {d : D} : okDq n h d = okD n h d := by cases d <;> rfl
noncomputable def natRq (f : Nat → Rd) (d : D) : Rd := (@D.rec (fun _ => (Nat → Rd) → Rd) (fun _ => Unit) (fun _ => .bad) (fun _ n f => Int.rec (motive := fun _ => (Nat → Rd) → Rd) (fun m f => f m) (fun _ _ => .bad) n f) (fun _ _ => .bad) (fun _ _ => .bad) (fun _ => .bad) (fun _ => .bad) (fun _ => .bad) (fun _ => .bad) (fun _ => .bad) (fun _ _ _ _ => .bad) (fun _ _ _ _ => .bad) (fun _ _ _ _ _ _ _ => .bad) (fun _ _ _ _ _ _ => .bad) (fun _ _ => .bad) (fun _ _ => .bad) (fun _ _ => .bad) (fun _ _ _ _ _ _ => .bad) (fun _ _ _ _ => .bad) (fun _ _ _ => .bad) (fun _ _ _ => .bad) () (fun _ _ _ _ => ()) d) f
theorem natRq_eq {f : Nat → Rd} {d : D} : natRq f d = natR f d := by cases d with | int k n => cases n <;> rfl | _ => rfl
noncomputable def condDq {α : Type} (d : D) (a b c : α) : α := (@D.rec (fun _ => α → α → α → α) (fun _ => Unit) (fun _ _ c => c) (fun _ _ _ _ c => c) (fun t a b _ => Bool.rec (motive := fun _ => α) b a t) (fun _ _ _ c => c) (fun _ _ c => c) (fun _ _ c => c) (fun _ _ c => c) (fun _ _ c => c) (fun _ _ c => c) (fun _ _ _ _ _ c => c) (fun _ _ _ _ _ c => c) (fun _ _ _ _ _ _ _ _ c => c) (fun _ _ _ _ _ _ _ c => c) (fun _ _ _ c => c) (fun _ _ _ c => c) (fun _ _ _ c => c) (fun _ _ _ _ _ _ _ c => c) (fun _ _ _ _ _ c => c) (fun _ _ _ _ c => c) (fun _ _ _ _ c => c) () (fun _ _ _ _ => ()) d) a b c
noncomputable def getOq (l : Hps) (r : Nat) : Ob := (List.rec (motive := fun _ => Nat → Ob) (fun _ => .none) (fun p _ ih r => Bool.rec (motive := fun _ => Ob) (ih r) p.2 (Nat.beq p.1 r)) l) r
theorem getOq_eq {r : Nat} : ∀ {l : Hps},getOq l r = getO l r := by intro l; induction l with | nil => rfl | cons p l ih => show Bool.rec (motive := fun _ => Ob) (getOq l r) p.2 (Nat.beq p.1 r) = Bool.rec (motive := fun _ => Ob) (getO l r) p.2 (Nat.beq p.1 r); rw [ih]
noncomputable def subq (ag : Bool) (k j : Nat) (d : D) : D := (@D.rec (fun _ => D → Bool → Nat → Nat → D) (fun _ => Unit) (fun d ag _ j => Bool.rec (motive := fun _ => D) (Nat.rec (motive := fun _ => D) d (fun _ _ => .junk) j) .junk ag) (fun _ _ d ag _ j => Bool.rec (motive := fun _ => D) (Nat.rec (motive := fun _ => D) d (fun _ _ => .junk) j) .junk ag) (fun _ d ag _ j => Bool.rec (motive := fun _ => D) (Nat.rec (motive := fun _ => D) d (fun _ _ => .junk) j) .junk ag) (fun _ d ag _ j => Bool.rec (motive := fun _ => D) (Nat.rec (motive := fun _ => D) d (fun _ _ => .junk) j) .junk ag) (fun d ag _ j => Bool.rec (motive := fun _ => D) (Nat.rec (motive := fun _ => D) d (fun _ _ => .junk) j) .junk ag) (fun d ag _ j => Bool.rec (motive := fun _ => D) (Nat.rec (motive := fun _ => D) d (fun _ _ => .junk) j) .junk ag) (fun d ag _ j => Bool.rec (motive := fun _ => D) (Nat.rec (motive := fun _ => D) d (fun _ _ => .junk) j) .junk ag) (fun d ag _ j => Bool.rec (motive := fun _ => D) (Nat.rec (motive := fun _ => D) d (fun _ _ => .junk) j) .junk ag) (fun d ag _ j => Bool.rec (motive := fun _ => D) (Nat.rec (motive := fun _ => D) d (fun _ _ => .junk) j) .junk ag) (fun _ _ _ d ag _ j => Bool.rec (motive := fun _ => D) (Nat.rec (motive := fun _ => D) d (fun _ _ => .junk) j) .junk ag) (fun _ _ _ d ag _ j => Bool.rec (motive := fun _ => D) (Nat.rec (motive := fun _ => D) d (fun _ _ => .junk) j) .junk ag) (fun _ _ _ _ _ _ d ag _ j => Bool.rec (motive := fun _ => D) (Nat.rec (motive := fun _ => D) d (fun _ _ => .junk) j) .junk ag) (fun _ _ _ _ _ d ag _ j => Bool.rec (motive := fun _ => D) (Nat.rec (motive := fun _ => D) d (fun _ _ => .junk) j) .junk ag) (fun _ d ag _ j => Bool.rec (motive := fun _ => D) (Nat.rec (motive := fun _ => D) d (fun _ _ => .junk) j) .junk ag) (fun _ d ag _ j => Bool.rec (motive := fun _ => D) (Nat.rec (motive := fun _ => D) d (fun _ _ => .junk) j) .junk ag) (fun _ d ag _ j => Bool.rec (motive := fun _ => D) (Nat.rec (motive := fun _ => D) d (fun _ _ => .junk) j) .junk ag) (fun _ _ _ _ _ d ag _ j => Bool.rec (motive := fun _ => D) (Nat.rec (motive := fun _ => D) d (fun _ _ => .junk) j) .junk ag) (fun _ _ _ d ag _ j => Bool.rec (motive := fun _ => D) (Nat.rec (motive := fun _ => D) d (fun _ _ => .junk) j) .junk ag) (fun cs _ _ ag k j => subA ag k j cs) (fun _ _ d ag _ j => Bool.rec (motive := fun _ => D) (Nat.rec (motive := fun _ => D) d (fun _ _ => .junk) j) .junk ag) () (fun _ _ _ _ => ()) d) d ag k j
theorem subq_eq {ag : Bool} {k j : Nat} {d : D} : subq ag k j d = sub ag k j d := by cases d <;> rfl
noncomputable def loadRq (ag : Bool) (k i j n : Nat) (h : Hps) (o : Ob) : Rd := (@Ob.rec (fun _ => Bool → Nat → Nat → Nat → Nat → Hps → Rd) (fun _ _ _ _ _ _ => .bad) (fun _ es ag k i j n h => okDq n h (subq ag k j (nth es i))) (fun _ _ _ _ _ _ _ => .bad) (fun _ _ _ _ _ _ _ => .bad) (fun _ _ _ _ _ _ _ _ => .bad) (fun _ _ _ _ _ _ _ _ => .bad) (fun _ _ _ _ _ _ _ _ _ _ _ _ => .bad) o) ag k i j n h
noncomputable def loadDq (ag : Bool) (k n : Nat) (h : Hps) (d : D) : Rd := (@D.rec (fun _ => Bool → Nat → Nat → Hps → Rd) (fun _ => Unit) (fun _ _ _ _ => .bad) (fun _ _ _ _ _ _ => .bad) (fun _ _ _ _ _ => .bad) (fun _ _ _ _ _ => .bad) (fun _ _ _ _ => .bad) (fun _ _ _ _ => .bad) (fun _ _ _ _ => .bad) (fun _ _ _ _ => .bad) (fun _ _ _ _ => .bad) (fun r i j ag k n h => loadRq ag k i j n h (getOq h r)) (fun e j _ ag k n h => okDq n h (subq ag k j e)) (fun _ _ _ _ _ _ _ _ _ _ => .bad) (fun _ _ _ _ _ _ _ _ _ => .bad) (fun _ _ _ _ _ => .bad) (fun _ _ _ _ _ => .bad) (fun _ _ _ _ _ => .bad) (fun _ _ _ _ _ _ _ _ _ => .bad) (fun _ _ _ _ _ _ _ => .bad) (fun _ _ _ _ _ _ => .bad) (fun _ _ _ _ _ _ => .bad) () (fun _ _ _ _ => ()) d) ag k n h
theorem loadDq_eq {ag : Bool} {k n : Nat} {h : Hps} {d : D} : loadDq ag k n h d = loadD ag k n h d := by
  cases d with
  | ptr r i j => show loadRq ag k i j n h (getOq h r) = loadR ag k i j n h (getO h r); rw [getOq_eq]; cases getO h r with
    | row kk es => show okDq n h (subq ag k j (nth es i)) = okD n h (sub ag k j (nth es i)); rw [okDq_eq,subq_eq]
    | _ => rfl
  | ip e j => show okDq n h (subq ag k j e) = okD n h (sub ag k j e); rw [okDq_eq,subq_eq]
  | _ => rfl
noncomputable def storeSq (r kk i : Nat) (es : List D) (n : Nat) (h : Hps) (x : D) : Rd := (@D.rec (fun _ => D → Nat → Nat → Nat → List D → Nat → Hps → Rd) (fun _ => Unit) (fun _ _ _ _ _ _ _ => .bad) (fun _ _ x r kk i es n h => ifR (Nat.blt i (lenL es)) (.ok .junk n (setO h r (.row kk (put es i x))))) (fun _ x r kk i es n h => ifR (Nat.blt i (lenL es)) (.ok .junk n (setO h r (.row kk (put es i x))))) (fun _ x r kk i es n h => ifR (Nat.blt i (lenL es)) (.ok .junk n (setO h r (.row kk (put es i x))))) (fun x r kk i es n h => ifR (Nat.blt i (lenL es)) (.ok .junk n (setO h r (.row kk (put es i x))))) (fun x r kk i es n h => ifR (Nat.blt i (lenL es)) (.ok .junk n (setO h r (.row kk (put es i x))))) (fun x r kk i es n h => ifR (Nat.blt i (lenL es)) (.ok .junk n (setO h r (.row kk (put es i x))))) (fun x r kk i es n h => ifR (Nat.blt i (lenL es)) (.ok .junk n (setO h r (.row kk (put es i x))))) (fun x r kk i es n h => ifR (Nat.blt i (lenL es)) (.ok .junk n (setO h r (.row kk (put es i x))))) (fun _ _ _ x r kk i es n h => ifR (Nat.blt i (lenL es)) (.ok .junk n (setO h r (.row kk (put es i x))))) (fun _ _ _ x r kk i es n h => ifR (Nat.blt i (lenL es)) (.ok .junk n (setO h r (.row kk (put es i x))))) (fun _ _ _ _ _ _ x r kk i es n h => ifR (Nat.blt i (lenL es)) (.ok .junk n (setO h r (.row kk (put es i x))))) (fun _ _ _ _ _ x r kk i es n h => ifR (Nat.blt i (lenL es)) (.ok .junk n (setO h r (.row kk (put es i x))))) (fun _ x r kk i es n h => ifR (Nat.blt i (lenL es)) (.ok .junk n (setO h r (.row kk (put es i x))))) (fun _ x r kk i es n h => ifR (Nat.blt i (lenL es)) (.ok .junk n (setO h r (.row kk (put es i x))))) (fun _ x r kk i es n h => ifR (Nat.blt i (lenL es)) (.ok .junk n (setO h r (.row kk (put es i x))))) (fun _ _ _ _ _ x r kk i es n h => ifR (Nat.blt i (lenL es)) (.ok .junk n (setO h r (.row kk (put es i x))))) (fun _ _ _ x r kk i es n h => ifR (Nat.blt i (lenL es)) (.ok .junk n (setO h r (.row kk (put es i x))))) (fun _ _ x r kk i es n h => ifR (Nat.blt i (lenL es)) (.ok .junk n (setO h r (.row kk (put es i x))))) (fun _ _ x r kk i es n h => ifR (Nat.blt i (lenL es)) (.ok .junk n (setO h r (.row kk (put es i x))))) () (fun _ _ _ _ => ()) x) x r kk i es n h
theorem storeSq_eq {r kk i n : Nat} {es : List D} {h : Hps} {x : D} : storeSq r kk i es n h x = storeS r kk i es n h x := by cases x <;> rfl
noncomputable def oneq (d : D) : Bool := (@D.rec (fun _ => Bool) (fun _ => Unit) (false) (fun _ _ => true) (fun _ => true) (fun _ => true) (true) (true) (true) (true) (true) (fun _ _ _ => true) (fun _ _ _ => true) (fun _ _ _ _ _ _ => true) (fun _ _ _ _ _ => true) (fun _ => true) (fun _ => true) (fun _ => true) (fun _ _ _ _ _ => true) (fun _ _ _ => true) (fun _ _ => false) (fun _ _ => false) () (fun _ _ _ _ => ()) d) 
theorem oneq_eq {d : D} : oneq d = one d := by cases d <;> rfl
noncomputable def setAq (ag : Bool) (k j : Nat) (cs : List D) (x : D) : D := (@D.rec (fun _ => D → Bool → Nat → Nat → List D → D) (fun _ => Unit) (fun x ag _ j cs => Bool.rec (motive := fun _ => D) (Bool.rec (motive := fun _ => D) .junk (.agg (put cs j x)) (Bool.and (oneq x) (Nat.blt j (lenL cs)))) .junk ag) (fun _ _ x ag _ j cs => Bool.rec (motive := fun _ => D) (Bool.rec (motive := fun _ => D) .junk (.agg (put cs j x)) (Bool.and (oneq x) (Nat.blt j (lenL cs)))) .junk ag) (fun _ x ag _ j cs => Bool.rec (motive := fun _ => D) (Bool.rec (motive := fun _ => D) .junk (.agg (put cs j x)) (Bool.and (oneq x) (Nat.blt j (lenL cs)))) .junk ag) (fun _ x ag _ j cs => Bool.rec (motive := fun _ => D) (Bool.rec (motive := fun _ => D) .junk (.agg (put cs j x)) (Bool.and (oneq x) (Nat.blt j (lenL cs)))) .junk ag) (fun x ag _ j cs => Bool.rec (motive := fun _ => D) (Bool.rec (motive := fun _ => D) .junk (.agg (put cs j x)) (Bool.and (oneq x) (Nat.blt j (lenL cs)))) .junk ag) (fun x ag _ j cs => Bool.rec (motive := fun _ => D) (Bool.rec (motive := fun _ => D) .junk (.agg (put cs j x)) (Bool.and (oneq x) (Nat.blt j (lenL cs)))) .junk ag) (fun x ag _ j cs => Bool.rec (motive := fun _ => D) (Bool.rec (motive := fun _ => D) .junk (.agg (put cs j x)) (Bool.and (oneq x) (Nat.blt j (lenL cs)))) .junk ag) (fun x ag _ j cs => Bool.rec (motive := fun _ => D) (Bool.rec (motive := fun _ => D) .junk (.agg (put cs j x)) (Bool.and (oneq x) (Nat.blt j (lenL cs)))) .junk ag) (fun x ag _ j cs => Bool.rec (motive := fun _ => D) (Bool.rec (motive := fun _ => D) .junk (.agg (put cs j x)) (Bool.and (oneq x) (Nat.blt j (lenL cs)))) .junk ag) (fun _ _ _ x ag _ j cs => Bool.rec (motive := fun _ => D) (Bool.rec (motive := fun _ => D) .junk (.agg (put cs j x)) (Bool.and (oneq x) (Nat.blt j (lenL cs)))) .junk ag) (fun _ _ _ x ag _ j cs => Bool.rec (motive := fun _ => D) (Bool.rec (motive := fun _ => D) .junk (.agg (put cs j x)) (Bool.and (oneq x) (Nat.blt j (lenL cs)))) .junk ag) (fun _ _ _ _ _ _ x ag _ j cs => Bool.rec (motive := fun _ => D) (Bool.rec (motive := fun _ => D) .junk (.agg (put cs j x)) (Bool.and (oneq x) (Nat.blt j (lenL cs)))) .junk ag) (fun _ _ _ _ _ x ag _ j cs => Bool.rec (motive := fun _ => D) (Bool.rec (motive := fun _ => D) .junk (.agg (put cs j x)) (Bool.and (oneq x) (Nat.blt j (lenL cs)))) .junk ag) (fun _ x ag _ j cs => Bool.rec (motive := fun _ => D) (Bool.rec (motive := fun _ => D) .junk (.agg (put cs j x)) (Bool.and (oneq x) (Nat.blt j (lenL cs)))) .junk ag) (fun _ x ag _ j cs => Bool.rec (motive := fun _ => D) (Bool.rec (motive := fun _ => D) .junk (.agg (put cs j x)) (Bool.and (oneq x) (Nat.blt j (lenL cs)))) .junk ag) (fun _ x ag _ j cs => Bool.rec (motive := fun _ => D) (Bool.rec (motive := fun _ => D) .junk (.agg (put cs j x)) (Bool.and (oneq x) (Nat.blt j (lenL cs)))) .junk ag) (fun _ _ _ _ _ x ag _ j cs => Bool.rec (motive := fun _ => D) (Bool.rec (motive := fun _ => D) .junk (.agg (put cs j x)) (Bool.and (oneq x) (Nat.blt j (lenL cs)))) .junk ag) (fun _ _ _ x ag _ j cs => Bool.rec (motive := fun _ => D) (Bool.rec (motive := fun _ => D) .junk (.agg (put cs j x)) (Bool.and (oneq x) (Nat.blt j (lenL cs)))) .junk ag) (fun xs _ _ ag k j cs => Bool.rec (motive := fun _ => D) .junk (setA2 k j cs xs) ag) (fun _ _ x ag _ j cs => Bool.rec (motive := fun _ => D) (Bool.rec (motive := fun _ => D) .junk (.agg (put cs j x)) (Bool.and (oneq x) (Nat.blt j (lenL cs)))) .junk ag) () (fun _ _ _ _ => ()) x) x ag k j cs
theorem setAq_eq {ag : Bool} {k j : Nat} {cs : List D} {x : D} : setAq ag k j cs x = setA ag k j cs x := by cases x <;> first | rfl | (cases ag <;> rfl)
noncomputable def setSq (ag : Bool) (k j : Nat) (e x : D) : D := (@D.rec (fun _ => Bool → Nat → Nat → D → D) (fun _ => Unit) (fun ag _ j x => Bool.rec (motive := fun _ => D) .junk x (Bool.and (Bool.not ag) (Bool.and (Nat.beq j 0) (oneq x)))) (fun _ _ ag _ j x => Bool.rec (motive := fun _ => D) .junk x (Bool.and (Bool.not ag) (Bool.and (Nat.beq j 0) (oneq x)))) (fun _ ag _ j x => Bool.rec (motive := fun _ => D) .junk x (Bool.and (Bool.not ag) (Bool.and (Nat.beq j 0) (oneq x)))) (fun _ ag _ j x => Bool.rec (motive := fun _ => D) .junk x (Bool.and (Bool.not ag) (Bool.and (Nat.beq j 0) (oneq x)))) (fun ag _ j x => Bool.rec (motive := fun _ => D) .junk x (Bool.and (Bool.not ag) (Bool.and (Nat.beq j 0) (oneq x)))) (fun ag _ j x => Bool.rec (motive := fun _ => D) .junk x (Bool.and (Bool.not ag) (Bool.and (Nat.beq j 0) (oneq x)))) (fun ag _ j x => Bool.rec (motive := fun _ => D) .junk x (Bool.and (Bool.not ag) (Bool.and (Nat.beq j 0) (oneq x)))) (fun ag _ j x => Bool.rec (motive := fun _ => D) .junk x (Bool.and (Bool.not ag) (Bool.and (Nat.beq j 0) (oneq x)))) (fun ag _ j x => Bool.rec (motive := fun _ => D) .junk x (Bool.and (Bool.not ag) (Bool.and (Nat.beq j 0) (oneq x)))) (fun _ _ _ ag _ j x => Bool.rec (motive := fun _ => D) .junk x (Bool.and (Bool.not ag) (Bool.and (Nat.beq j 0) (oneq x)))) (fun _ _ _ ag _ j x => Bool.rec (motive := fun _ => D) .junk x (Bool.and (Bool.not ag) (Bool.and (Nat.beq j 0) (oneq x)))) (fun _ _ _ _ _ _ ag _ j x => Bool.rec (motive := fun _ => D) .junk x (Bool.and (Bool.not ag) (Bool.and (Nat.beq j 0) (oneq x)))) (fun _ _ _ _ _ ag _ j x => Bool.rec (motive := fun _ => D) .junk x (Bool.and (Bool.not ag) (Bool.and (Nat.beq j 0) (oneq x)))) (fun _ ag _ j x => Bool.rec (motive := fun _ => D) .junk x (Bool.and (Bool.not ag) (Bool.and (Nat.beq j 0) (oneq x)))) (fun _ ag _ j x => Bool.rec (motive := fun _ => D) .junk x (Bool.and (Bool.not ag) (Bool.and (Nat.beq j 0) (oneq x)))) (fun _ ag _ j x => Bool.rec (motive := fun _ => D) .junk x (Bool.and (Bool.not ag) (Bool.and (Nat.beq j 0) (oneq x)))) (fun _ _ _ _ _ ag _ j x => Bool.rec (motive := fun _ => D) .junk x (Bool.and (Bool.not ag) (Bool.and (Nat.beq j 0) (oneq x)))) (fun _ _ _ ag _ j x => Bool.rec (motive := fun _ => D) .junk x (Bool.and (Bool.not ag) (Bool.and (Nat.beq j 0) (oneq x)))) (fun cs _ ag k j x => setAq ag k j cs x) (fun _ _ ag _ j x => Bool.rec (motive := fun _ => D) .junk x (Bool.and (Bool.not ag) (Bool.and (Nat.beq j 0) (oneq x)))) () (fun _ _ _ _ => ()) e) ag k j x
theorem setSq_eq {ag : Bool} {k j : Nat} {e x : D} : setSq ag k j e x = setS ag k j e x := by
  cases e with
  | agg cs => exact setAq_eq
  | _ => show Bool.rec (motive := fun _ => D) .junk x (Bool.and (Bool.not ag) (Bool.and (Nat.beq j 0) (oneq x))) = set1 ag j x; rw [oneq_eq]; rfl
noncomputable def storeRq (ag : Bool) (k r i j : Nat) (x : D) (n : Nat) (h : Hps) (o : Ob) : Rd := (@Ob.rec (fun _ => Bool → Nat → Nat → Nat → Nat → D → Nat → Hps → Rd) (fun _ _ _ _ _ _ _ _ => .bad) (fun kk es ag k r i j x n h => storeSq r kk i es n h (setSq ag k j (nth es i) x)) (fun _ _ _ _ _ _ _ _ _ => .bad) (fun _ _ _ _ _ _ _ _ _ => .bad) (fun _ _ _ _ _ _ _ _ _ _ => .bad) (fun _ _ _ _ _ _ _ _ _ _ => .bad) (fun _ _ _ _ _ _ _ _ _ _ _ _ _ _ => .bad) o) ag k r i j x n h
noncomputable def storeDq (ag : Bool) (k : Nat) (x : D) (n : Nat) (h : Hps) (d : D) : Rd := (@D.rec (fun _ => Bool → Nat → D → Nat → Hps → Rd) (fun _ => Unit) (fun _ _ _ _ _ => .bad) (fun _ _ _ _ _ _ _ => .bad) (fun _ _ _ _ _ _ => .bad) (fun _ _ _ _ _ _ => .bad) (fun _ _ _ _ _ => .bad) (fun _ _ _ _ _ => .bad) (fun _ _ _ _ _ => .bad) (fun _ _ _ _ _ => .bad) (fun _ _ _ _ _ => .bad) (fun r i j ag k x n h => storeRq ag k r i j x n h (getOq h r)) (fun _ _ _ _ _ _ _ _ => .bad) (fun _ _ _ _ _ _ _ _ _ _ _ => .bad) (fun _ _ _ _ _ _ _ _ _ _ => .bad) (fun _ _ _ _ _ _ => .bad) (fun _ _ _ _ _ _ => .bad) (fun _ _ _ _ _ _ => .bad) (fun _ _ _ _ _ _ _ _ _ _ => .bad) (fun _ _ _ _ _ _ _ _ => .bad) (fun _ _ _ _ _ _ _ => .bad) (fun _ _ _ _ _ _ _ => .bad) () (fun _ _ _ _ => ()) d) ag k x n h
theorem storeDq_eq {ag : Bool} {k n : Nat} {x : D} {h : Hps} {d : D} : storeDq ag k x n h d = storeD ag k x n h d := by
  cases d with
  | ptr r i j => show storeRq ag k r i j x n h (getOq h r) = storeR ag k r i j x n h (getO h r); rw [getOq_eq]; cases getO h r with
    | row kk es => show storeSq r kk i es n h (setSq ag k j (nth es i) x) = storeS r kk i es n h (setS ag k j (nth es i) x); rw [setSq_eq,storeSq_eq]
    | _ => rfl
  | _ => rfl
noncomputable def kcq (k : IntKind) : Nat := @IntKind.rec (fun _ => Nat) 0 1 2 3 4 5 6 7 k
theorem kcq_eq {k : IntKind} : kcq k = kc k := by cases k <;> rfl
noncomputable def wrq (k : IntKind) (n : Int) : Int := (@IntKind.rec (fun _ => Int → Int) (fun n => IntKind.wrap .i8 n) (fun n => IntKind.wrap .i16 n) (fun n => IntKind.wrap .i32 n) (fun n => wr64 n) (fun n => IntKind.wrap .u8 n) (fun n => IntKind.wrap .u16 n) (fun n => IntKind.wrap .u32 n) (fun n => IntKind.wrap .u64 n) k) n
theorem wrq_eq {k : IntKind} {n : Int} : wrq k n = wr k n := by cases k <;> rfl
noncomputable def twoq (f : IntKind → Int → Int → D) (x y : D) : D := (@D.rec (fun _ => (IntKind → Int → Int → D) → D → D) (fun _ => Unit) (fun _ _ => .junk) (fun k n f y => (@D.rec (fun _ => (IntKind → Int → Int → D) → IntKind → Int → D) (fun _ => Unit) (fun _ _ _ => .junk) (fun k2 n2 f k n => Bool.rec (motive := fun _ => D) .junk (f k n n2) (Nat.beq (kcq k) (kcq k2))) (fun _ _ _ _ => .junk) (fun _ _ _ _ => .junk) (fun _ _ _ => .junk) (fun _ _ _ => .junk) (fun _ _ _ => .junk) (fun _ _ _ => .junk) (fun _ _ _ => .junk) (fun _ _ _ _ _ _ => .junk) (fun _ _ _ _ _ _ => .junk) (fun _ _ _ _ _ _ _ _ _ => .junk) (fun _ _ _ _ _ _ _ _ => .junk) (fun _ _ _ _ => .junk) (fun _ _ _ _ => .junk) (fun _ _ _ _ => .junk) (fun _ _ _ _ _ _ _ _ => .junk) (fun _ _ _ _ _ _ => .junk) (fun _ _ _ _ _ => .junk) (fun _ _ _ _ _ => .junk) () (fun _ _ _ _ => ()) y) f k n) (fun _ _ _ => .junk) (fun _ _ _ => .junk) (fun _ _ => .junk) (fun _ _ => .junk) (fun _ _ => .junk) (fun _ _ => .junk) (fun _ _ => .junk) (fun _ _ _ _ _ => .junk) (fun _ _ _ _ _ => .junk) (fun _ _ _ _ _ _ _ _ => .junk) (fun _ _ _ _ _ _ _ => .junk) (fun _ _ _ => .junk) (fun _ _ _ => .junk) (fun _ _ _ => .junk) (fun _ _ _ _ _ _ _ => .junk) (fun _ _ _ _ _ => .junk) (fun _ _ _ _ => .junk) (fun _ _ _ _ => .junk) () (fun _ _ _ _ => ()) x) f y
theorem twoq_eq {op : BinOp} (hs : op ≠ .shl ∧ op ≠ .shr) {f : IntKind → Int → Int → D} (hf : ∀ k a b,f k a b = binI op k a b) {k k' : IntKind} {a b : Int} : twoq f (.int k a) (.int k' b) = binD op (.int k a) (.int k' b) := by
  have e : binD op (.int k a) (.int k' b) = Bool.rec (motive := fun _ => D) .junk (binI op k a b) (Nat.beq (kc k) (kc k')) := by cases op <;> first | rfl | exact absurd rfl hs.1 | exact absurd rfl hs.2
  rw [e]
  show Bool.rec (motive := fun _ => D) .junk (f k a b) (Nat.beq (kcq k) (kcq k')) = _
  rw [kcq_eq,kcq_eq,hf]
noncomputable def binq (f : IntKind → Int → Int → D) (g : List Nat → List Nat → D) (x y : D) : D := (@D.rec (fun _ => (IntKind → Int → Int → D) → (List Nat → List Nat → D) → D → D) (fun _ => Unit) (fun _ _ _ => .junk) (fun k n f _ y => twoq f (.int k n) y) (fun _ _ _ _ => .junk) (fun s _ g y => (@D.rec (fun _ => (List Nat → List Nat → D) → List Nat → D) (fun _ => Unit) (fun _ _ => .junk) (fun _ _ _ _ => .junk) (fun _ _ _ => .junk) (fun t g s => g s t) (fun _ _ => .junk) (fun _ _ => .junk) (fun _ _ => .junk) (fun _ _ => .junk) (fun _ _ => .junk) (fun _ _ _ _ _ => .junk) (fun _ _ _ _ _ => .junk) (fun _ _ _ _ _ _ _ _ => .junk) (fun _ _ _ _ _ _ _ => .junk) (fun _ _ _ => .junk) (fun _ _ _ => .junk) (fun _ _ _ => .junk) (fun _ _ _ _ _ _ _ => .junk) (fun _ _ _ _ _ => .junk) (fun _ _ _ _ => .junk) (fun _ _ _ _ => .junk) () (fun _ _ _ _ => ()) y) g s) (fun _ _ _ => .junk) (fun _ _ _ => .junk) (fun _ _ _ => .junk) (fun _ _ _ => .junk) (fun _ _ _ => .junk) (fun _ _ _ _ _ _ => .junk) (fun _ _ _ _ _ _ => .junk) (fun _ _ _ _ _ _ _ _ _ => .junk) (fun _ _ _ _ _ _ _ _ => .junk) (fun _ _ _ _ => .junk) (fun _ _ _ _ => .junk) (fun _ _ _ _ => .junk) (fun _ _ _ _ _ _ _ _ => .junk) (fun _ _ _ _ _ _ => .junk) (fun _ _ _ _ _ => .junk) (fun _ _ _ _ _ => .junk) () (fun _ _ _ _ => ()) x) f g y
theorem binq_eq {op : BinOp} (hs : op ≠ .shl ∧ op ≠ .shr) {f : IntKind → Int → Int → D} (hf : ∀ k a b,f k a b = binI op k a b) {g : List Nat → List Nat → D} (hg : ∀ s t,g s t = binS op s t) {x y : D} : binq f g x y = binD op x y := by
  cases x with
  | int k a => cases y with
    | int k' b => exact twoq_eq hs hf
    | _ => rfl
  | str s => cases y with
    | str t => exact hg s t
    | _ => rfl
  | _ => rfl
noncomputable def allLq (f : D → Bool) (l : List D) : Bool := (List.rec (motive := fun _ => (D → Bool) → Bool) (fun _ => true) (fun a _ ih f => Bool.rec (motive := fun _ => Bool) false (ih f) (f a)) l) f
theorem allLq_eq {f : D → Bool} {l : List D} : allLq f l = allL f l := by
  induction l with
  | nil => rfl
  | cons a l ih => show Bool.rec (motive := fun _ => Bool) false (allLq f l) (f a) = Bool.rec (motive := fun _ => Bool) false (allL f l) (f a); rw [ih]
noncomputable def anyLq (f : D → Bool) (l : List D) : Bool := (List.rec (motive := fun _ => (D → Bool) → Bool) (fun _ => false) (fun a _ ih f => Bool.rec (motive := fun _ => Bool) (ih f) true (f a)) l) f
theorem anyLq_eq {f g : D → Bool} (hf : ∀ d,f d = g d) {l : List D} : anyLq f l = Bool.not (allL (fun d => Bool.not (g d)) l) := by
  induction l with
  | nil => rfl
  | cons a l ih =>
    show Bool.rec (motive := fun _ => Bool) (anyLq f l) true (f a) = Bool.not (Bool.rec (motive := fun _ => Bool) false (allL (fun d => Bool.not (g d)) l) (Bool.not (g a)))
    rw [ih,hf]
    cases g a <;> rfl
noncomputable def hasRq (fuel n0 : Nat) (d : D) : Bool := (Nat.rec (motive := fun _ => Nat → D → Bool) (fun _ _ => true) (fun _ ih n0 d => (@D.rec (fun _ => (Nat → D → Bool) → Nat → Bool) (fun _ => Unit) (fun _ _ => false) (fun _ _ _ _ => false) (fun _ _ _ => false) (fun _ _ _ => false) (fun _ _ => false) (fun _ _ => false) (fun _ _ => false) (fun _ _ => false) (fun _ _ => false) (fun r _ _ _ n0 => Nat.ble n0 r) (fun _ _ _ _ _ => false) (fun _ _ _ _ _ _ _ _ => false) (fun _ r _ _ _ _ n0 => Nat.ble n0 r) (fun r _ n0 => Nat.ble n0 r) (fun r _ n0 => Nat.ble n0 r) (fun r _ n0 => Nat.ble n0 r) (fun _ a c _ _ ih n0 => Bool.rec (motive := fun _ => Bool) (anyLq (ih n0) c) true (anyLq (ih n0) a)) (fun _ d _ ih n0 => ih n0 d) (fun cs _ ih n0 => anyLq (ih n0) cs) (fun cs _ ih n0 => anyLq (ih n0) cs) () (fun _ _ _ _ => ()) d) ih n0) fuel) n0 d
theorem not_and {a b : Bool} : Bool.not (Bool.and a b) = Bool.rec (motive := fun _ => Bool) (Bool.not b) true (Bool.not a) := by cases a <;> cases b <;> rfl
theorem hasRq_eq {n0 : Nat} : ∀ {f : Nat} {d : D},hasRq f n0 d = hasR n0 f d
  | 0,_ => rfl
  | f + 1,d => by
    have ih : ∀ d,hasRq f n0 d = hasR n0 f d := fun d => hasRq_eq
    cases d with
    | iface t d => exact ih d
    | agg cs => exact anyLq_eq ih
    | tup cs => exact anyLq_eq ih
    | fn g a c =>
      show Bool.rec (motive := fun _ => Bool) (anyLq (hasRq f n0) c) true (anyLq (hasRq f n0) a) = Bool.not (Bool.and (allL (fun d => Bool.not (hasR n0 f d)) a) (allL (fun d => Bool.not (hasR n0 f d)) c))
      rw [anyLq_eq ih,anyLq_eq ih,not_and]
    | _ => rfl
noncomputable def hasPq (fuel n0 : Nat) (d : D) : Bool := (Nat.rec (motive := fun _ => Nat → D → Bool) (fun _ _ => false) (fun _ ih n0 d => (@D.rec (fun _ => (Nat → D → Bool) → Nat → Bool) (fun _ => Unit) (fun _ _ => false) (fun _ _ _ _ => false) (fun _ _ _ => false) (fun _ _ _ => false) (fun _ _ => false) (fun _ _ => false) (fun _ _ => false) (fun _ _ => false) (fun _ _ => false) (fun r _ _ _ n0 => Nat.ble n0 r) (fun _ _ _ _ _ => false) (fun _ _ _ _ _ _ _ _ => false) (fun _ _ _ _ _ _ _ => false) (fun r _ n0 => Nat.ble n0 r) (fun r _ n0 => Nat.ble n0 r) (fun _ _ _ => false) (fun _ _ _ _ _ _ _ => false) (fun _ _ _ _ _ => false) (fun cs _ ih n0 => anyLq (ih n0) cs) (fun cs _ ih n0 => anyLq (ih n0) cs) () (fun _ _ _ _ => ()) d) ih n0) fuel) n0 d
theorem hasPq_eq {n0 : Nat} : ∀ {f : Nat} {d : D},hasPq f n0 d = hasP n0 f d
  | 0,_ => rfl
  | f + 1,d => by
    have ih : ∀ d,hasPq f n0 d = hasP n0 f d := fun d => hasPq_eq
    cases d with
    | agg cs => exact anyLq_eq ih
    | tup cs => exact anyLq_eq ih
    | _ => rfl
noncomputable def obRq (n0 : Nat) (o : Ob) : Bool := (@Ob.rec (fun _ => Nat → Bool) (fun _ => false) (fun _ es n0 => anyLq (hasRq 20 n0) es) (fun es n0 => obR1 n0 (.map es)) (fun q n0 => Nat.ble n0 q) (fun _ _ _ => false) (fun _ buf n0 => anyLq (hasRq 20 n0) buf) (fun k _ _ _ _ _ n0 => Nat.blt n0 k) o) n0
theorem obRq_eq {n0 : Nat} {o : Ob} : obRq n0 o = obR1 n0 o := by
  cases o with
  | row k es => exact anyLq_eq (fun d => hasRq_eq)
  | chan c es => exact anyLq_eq (fun d => hasRq_eq)
  | _ => rfl
noncomputable def leakq (n0 : Nat) (h : Hps) : Bool := (List.rec (motive := fun _ => Nat → Bool) (fun _ => false) (fun p _ ih n0 => Bool.rec (motive := fun _ => Bool) (ih n0) (Bool.rec (motive := fun _ => Bool) (ih n0) true (obRq n0 p.2)) (Nat.blt p.1 n0)) h) n0
theorem or_rec {a b : Bool} : Bool.rec (motive := fun _ => Bool) b true a = Bool.or a b := by cases a <;> rfl
theorem leakq_eq {n0 : Nat} : ∀ {h : Hps},leakq n0 h = leak n0 h := by
  intro h
  induction h with
  | nil => rfl
  | cons p h ih =>
    show Bool.rec (motive := fun _ => Bool) (leakq n0 h) (Bool.rec (motive := fun _ => Bool) (leakq n0 h) true (obRq n0 p.2)) (Nat.blt p.1 n0) = Bool.rec (motive := fun _ => Bool) (leak n0 h) (Bool.or (obR1 n0 p.2) (leak n0 h)) (Nat.blt p.1 n0)
    rw [ih,obRq_eq,or_rec]
noncomputable def hasJq (fuel : Nat) (d : D) : Bool := (Nat.rec (motive := fun _ => D → Bool) (fun _ => true) (fun _ ih d => (@D.rec (fun _ => (D → Bool) → Bool) (fun _ => Unit) (fun _ => true) (fun _ _ _ => false) (fun _ _ => false) (fun _ _ => false) (fun _ => false) (fun _ => false) (fun _ => false) (fun _ => false) (fun _ => false) (fun _ _ _ _ => false) (fun _ _ _ _ => false) (fun _ _ _ _ _ _ _ => false) (fun _ _ _ _ _ _ => false) (fun _ _ => false) (fun _ _ => false) (fun _ _ => false) (fun _ a c _ _ ih => Bool.rec (motive := fun _ => Bool) (anyLq ih c) true (anyLq ih a)) (fun _ _ _ _ => false) (fun cs _ ih => anyLq ih cs) (fun cs _ ih => anyLq ih cs) () (fun _ _ _ _ => ()) d) ih) fuel) d
theorem hasJq_eq : ∀ {f : Nat} {d : D},hasJq f d = hasJ f d
  | 0,_ => rfl
  | f + 1,d => by
    have ih : ∀ d,hasJq f d = hasJ f d := fun d => hasJq_eq
    cases d with
    | agg cs => exact anyLq_eq ih
    | tup cs => exact anyLq_eq ih
    | fn g a c =>
      show Bool.rec (motive := fun _ => Bool) (anyLq (hasJq f) c) true (anyLq (hasJq f) a) = Bool.not (Bool.and (allL (fun d => Bool.not (hasJ f d)) a) (allL (fun d => Bool.not (hasJ f d)) c))
      rw [anyLq_eq ih,anyLq_eq ih,not_and]
    | _ => rfl
noncomputable def cloq (fuel : Nat) (d : D) : Bool := (Nat.rec (motive := fun _ => D → Bool) (fun _ => false) (fun _ ih d => (@D.rec (fun _ => (D → Bool) → Bool) (fun _ => Unit) (fun _ => false) (fun _ _ _ => true) (fun _ _ => true) (fun _ _ => true) (fun _ => true) (fun _ => true) (fun _ => true) (fun _ => true) (fun _ => true) (fun _ _ _ _ => false) (fun _ _ _ _ => true) (fun _ _ _ _ _ _ _ => true) (fun _ _ _ _ _ _ => false) (fun _ _ => false) (fun _ _ => false) (fun _ _ => false) (fun _ a c _ _ ih => Bool.and (allLq ih a) (allLq ih c)) (fun _ d _ ih => ih d) (fun cs _ ih => allLq ih cs) (fun cs _ ih => allLq ih cs) () (fun _ _ _ _ => ()) d) ih) fuel) d
theorem allLq_to {f g : D → Bool} (hf : ∀ d,f d = g d) {l : List D} : allLq f l = allL g l := by rw [allLq_eq,show f = g from funext hf]
theorem cloq_eq : ∀ {f : Nat} {d : D},cloq f d = clo f d
  | 0,_ => rfl
  | f + 1,d => by
    have ih : ∀ d,cloq f d = clo f d := fun d => cloq_eq
    cases d with
    | agg cs => exact allLq_to ih
    | tup cs => exact allLq_to ih
    | fn g a c => show Bool.and (allLq (cloq f) a) (allLq (cloq f) c) = Bool.and (allL (clo f) a) (allL (clo f) c); rw [allLq_to ih,allLq_to ih]
    | iface t d => exact ih d
    | _ => rfl
noncomputable def lenCq (d : D) : Nat := (@D.rec (fun _ => Nat) (fun _ => Unit) (1) (fun _ _ => 1) (fun _ => 1) (fun _ => 1) (1) (1) (1) (1) (1) (fun _ _ _ => 1) (fun _ _ _ => 1) (fun _ _ _ _ _ _ => 1) (fun _ _ _ _ _ => 1) (fun _ => 1) (fun _ => 1) (fun _ => 1) (fun _ _ _ _ _ => 1) (fun _ _ _ => 1) (fun cs _ => lenL cs) (fun _ _ => 1) () (fun _ _ _ _ => ()) d) 
theorem lenCq_eq {d : D} : lenCq d = lenL (cells d) := by cases d <;> rfl
noncomputable def okFq (k : Nat) (d : D) : Bool := (@D.rec (fun _ => Nat → Bool) (fun _ => Unit) (fun _ => false) (fun _ _ k => Nat.beq k 1) (fun _ k => Nat.beq k 1) (fun _ k => Nat.beq k 1) (fun k => Nat.beq k 1) (fun k => Nat.beq k 1) (fun k => Nat.beq k 1) (fun k => Nat.beq k 1) (fun k => Nat.beq k 1) (fun _ _ _ k => Nat.beq k 1) (fun _ _ _ k => Nat.beq k 1) (fun _ _ _ _ _ _ k => Nat.beq k 1) (fun _ _ _ _ _ k => Nat.beq k 1) (fun _ k => Nat.beq k 1) (fun _ k => Nat.beq k 1) (fun _ k => Nat.beq k 1) (fun _ _ _ _ _ k => Nat.beq k 1) (fun _ _ _ k => Nat.beq k 1) (fun cs _ k => Nat.beq k (lenL cs)) (fun _ _ _ => false) () (fun _ _ _ _ => ()) d) k
theorem okFq_eq {k : Nat} {d : D} : okFq k d = okF k d := by cases d <;> rfl
noncomputable def okEq (k : Nat) (d : D) : Bool := Bool.rec (motive := fun _ => Bool) false (cloq 20 d) (okFq k d)
theorem okEq_eq {k : Nat} {d : D} : okEq k d = okE k d := by unfold okEq okE; rw [cloq_eq,okFq_eq]; cases okF k d <;> rfl
noncomputable def mapLq (f : D → D) (l : List D) : List D := (List.rec (motive := fun _ => (D → D) → List D) (fun _ => []) (fun a _ ih f => f a :: ih f) l) f
theorem mapLq_to {f g : D → D} (hf : ∀ d,f d = g d) {l : List D} : mapLq f l = mapL g l := by
  rw [show f = g from funext hf]
  induction l with
  | nil => rfl
  | cons a l ih => exact congrArg (g a :: ·) ih
noncomputable def frzSq (k : Nat) (es sp : List D) (full : Bool) : D := Bool.rec (motive := fun _ => D) .junk (.sl k es (Bool.rec (motive := fun _ => List D) (Bool.rec (motive := fun _ => List D) [] sp (Bool.and (Nat.blt 0 k) (allLq (okEq k) sp))) [] full) full) (allLq (okEq k) es)
theorem frzSq_eq {k : Nat} {es sp : List D} {full : Bool} : frzSq k es sp full = frzS k es sp full := by unfold frzSq frzS spareK; rw [allLq_to (fun d => okEq_eq),allLq_to (fun d => okEq_eq)]
noncomputable def frzOq (ih : D → D) (k off len : Nat) (full : Bool) (o : Ob) : D := (@Ob.rec (fun _ => (D → D) → Nat → Nat → Nat → Bool → D) (fun _ _ _ _ _ => .junk) (fun k2 es ih k off len full => Bool.rec (motive := fun _ => D) .junk (frzSq k (mapLq ih (takeL len (dropL off es))) (dropL (off + len) es) full) (Bool.and (Nat.beq k k2) (Nat.ble (off + len) (lenL es)))) (fun _ _ _ _ _ _ => .junk) (fun _ _ _ _ _ _ => .junk) (fun _ _ _ _ _ _ _ => .junk) (fun _ _ _ _ _ _ _ => .junk) (fun _ _ _ _ _ _ _ _ _ _ _ => .junk) o) ih k off len full
noncomputable def frzPq (ih : D → D) (i j : Nat) (o : Ob) : D := (@Ob.rec (fun _ => (D → D) → Nat → Nat → D) (fun _ _ _ => .junk) (fun k es ih i j => (fun e => Bool.rec (motive := fun _ => D) .junk (.ip e j) (okEq k e)) (ih (nth es i))) (fun _ _ _ _ => .junk) (fun _ _ _ _ => .junk) (fun _ _ _ _ _ => .junk) (fun _ _ _ _ _ => .junk) (fun _ _ _ _ _ _ _ _ _ => .junk) o) ih i j
noncomputable def frzq (fuel : Nat) (h : Hps) (n0 : Nat) (d : D) : D := (Nat.rec (motive := fun _ => Hps → Nat → D → D) (fun _ _ _ => .junk) (fun _ ih h n0 d => (@D.rec (fun _ => D → (Hps → Nat → D → D) → Hps → Nat → D) (fun _ => Unit) (fun d _ _ _ => d) (fun _ _ d _ _ _ => d) (fun _ d _ _ _ => d) (fun _ d _ _ _ => d) (fun d _ _ _ => d) (fun d _ _ _ => d) (fun d _ _ _ => d) (fun d _ _ _ => d) (fun d _ _ _ => d) (fun r i j d ih h n0 => Bool.rec (motive := fun _ => D) (frzPq (ih h n0) i j (getOq h r)) d (Nat.blt r n0)) (fun _ _ _ d _ _ _ => d) (fun _ _ _ _ _ _ d _ _ _ => d) (fun k r off len full d ih h n0 => Bool.rec (motive := fun _ => D) (frzOq (ih h n0) k off len full (getOq h r)) d (Nat.blt r n0)) (fun _ d _ _ _ => d) (fun _ d _ _ _ => d) (fun _ d _ _ _ => d) (fun f a c _ _ _ ih h n0 => .fn f (mapLq (ih h n0) a) (mapLq (ih h n0) c)) (fun _ _ _ d _ _ _ => d) (fun cs _ _ ih h n0 => .agg (mapLq (ih h n0) cs)) (fun cs _ _ ih h n0 => .tup (mapLq (ih h n0) cs)) () (fun _ _ _ _ => ()) d) d ih h n0) fuel) h n0 d
theorem frzq_eq {h : Hps} {n0 : Nat} : ∀ {f : Nat} {d : D},frzq f h n0 d = frz h n0 f d
  | 0,_ => rfl
  | f + 1,d => by
    have ih : ∀ d,frzq f h n0 d = frz h n0 f d := fun d => frzq_eq
    cases d with
    | ms k r off len full =>
      have e : frzOq (frzq f h n0) k off len full (getOq h r) = frzO (frz h n0 f) k off len full (getO h r) := by
        rw [getOq_eq]
        cases getO h r with
        | row k2 es => show Bool.rec (motive := fun _ => D) .junk (frzSq k (mapLq (frzq f h n0) (takeL len (dropL off es))) (dropL (off + len) es) full) _ = Bool.rec (motive := fun _ => D) .junk (frzS k (mapL (frz h n0 f) (takeL len (dropL off es))) (dropL (off + len) es) full) _; rw [frzSq_eq,mapLq_to ih]
        | _ => rfl
      show Bool.rec (motive := fun _ => D) (frzOq (frzq f h n0) k off len full (getOq h r)) (.ms k r off len full) (Nat.blt r n0) = Bool.rec (motive := fun _ => D) (frzO (frz h n0 f) k off len full (getO h r)) (.ms k r off len full) (Nat.blt r n0)
      rw [e]
    | ptr r i j =>
      have e : frzPq (frzq f h n0) i j (getOq h r) = frzP (frz h n0 f) i j (getO h r) := by
        rw [getOq_eq]
        cases getO h r with
        | row k es => show Bool.rec (motive := fun _ => D) .junk (.ip (frzq f h n0 (nth es i)) j) (okEq k (frzq f h n0 (nth es i))) = Bool.rec (motive := fun _ => D) .junk (.ip (frz h n0 f (nth es i)) j) (okE k (frz h n0 f (nth es i))); rw [ih,okEq_eq]
        | _ => rfl
      show Bool.rec (motive := fun _ => D) (frzPq (frzq f h n0) i j (getOq h r)) (.ptr r i j) (Nat.blt r n0) = Bool.rec (motive := fun _ => D) (frzP (frz h n0 f) i j (getO h r)) (.ptr r i j) (Nat.blt r n0)
      rw [e]
    | agg cs => exact congrArg D.agg (mapLq_to ih)
    | tup cs => exact congrArg D.tup (mapLq_to ih)
    | fn g a c => show D.fn g (mapLq (frzq f h n0) a) (mapLq (frzq f h n0) c) = D.fn g (mapL (frz h n0 f) a) (mapL (frz h n0 f) c); rw [mapLq_to ih,mapLq_to ih]
    | _ => rfl
theorem allL_mem {f : D → Bool} : ∀ {l : List D},allL f l = true → ∀ d,d ∈ l → f d = true
  | a :: l,h,d,hd => by
    have h1 : Bool.rec (motive := fun _ => Bool) false (allL f l) (f a) = true := h
    cases ha : f a with
    | false => rw [ha] at h1; cases h1
    | true =>
      rw [ha] at h1
      rcases List.mem_cons.1 hd with rfl | hd
      · exact ha
      · exact allL_mem h1 d hd
theorem allL_of {f : D → Bool} : ∀ {l : List D},(∀ d,d ∈ l → f d = true) → allL f l = true
  | [],_ => rfl
  | a :: l,h => by
    show Bool.rec (motive := fun _ => Bool) false (allL f l) (f a) = true
    rw [h a List.mem_cons_self]
    exact allL_of (fun d hd => h d (List.mem_cons_of_mem _ hd))
theorem clo_hasR {n0 : Nat} : ∀ {f : Nat} {d : D},clo f d = true → hasR n0 f d = false
  | 0,_,h => by cases h
  | f + 1,d,h => by
    have hl : ∀ {l : List D},allL (clo f) l = true → allL (fun d => Bool.not (hasR n0 f d)) l = true := fun h => allL_of (fun d hd => by rw [clo_hasR (allL_mem h d hd)]; rfl)
    cases d with
    | agg cs => show Bool.not (allL (fun d => Bool.not (hasR n0 f d)) cs) = false; rw [hl (show allL (clo f) cs = true from h)]; rfl
    | tup cs => show Bool.not (allL (fun d => Bool.not (hasR n0 f d)) cs) = false; rw [hl (show allL (clo f) cs = true from h)]; rfl
    | fn g a c =>
      obtain ⟨h1,h2⟩ := and2 (show Bool.and (allL (clo f) a) (allL (clo f) c) = true from h)
      show Bool.not (Bool.and (allL (fun d => Bool.not (hasR n0 f d)) a) (allL (fun d => Bool.not (hasR n0 f d)) c)) = false
      rw [hl h1,hl h2]; rfl
    | iface t d => exact clo_hasR (f := f) (show clo f d = true from h)
    | junk => cases h
    | ms => cases h
    | ptr => cases h
    | mp => cases h
    | ch => cases h
    | yld => cases h
    | _ => rfl
theorem clo_inD {p : Nat → Bool} : ∀ {f : Nat} {d : D},clo f d = true → inD p f d = true
  | 0,_,h => by cases h
  | f + 1,d,h => by
    have hl : ∀ {l : List D},allL (clo f) l = true → allL (inD p f) l = true := fun h => allL_of (fun d hd => clo_inD (allL_mem h d hd))
    cases d with
    | agg cs => exact hl (show allL (clo f) cs = true from h)
    | tup cs => exact hl (show allL (clo f) cs = true from h)
    | fn g a c =>
      obtain ⟨h1,h2⟩ := and2 (show Bool.and (allL (clo f) a) (allL (clo f) c) = true from h)
      show Bool.and (allL (inD p f) a) (allL (inD p f) c) = true
      rw [hl h1,hl h2]; rfl
    | iface t d => exact clo_inD (f := f) (show clo f d = true from h)
    | junk => cases h
    | ms => cases h
    | ptr => cases h
    | mp => cases h
    | ch => cases h
    | yld => cases h
    | _ => rfl
theorem clo_rd : ∀ {f : Nat} {d : D},clo f d = true → rd f d = []
  | 0,_,h => by cases h
  | f + 1,d,h => by
    have hl : ∀ {l : List D},allL (clo f) l = true → rfL (rd f) l = [] := by
      intro l
      induction l with
      | nil => intro _; rfl
      | cons a l ih =>
        intro h
        show appN (rd f a) (rfL (rd f) l) = []
        rw [clo_rd (allL_mem h a List.mem_cons_self),ih (allL_of (fun d hd => allL_mem h d (List.mem_cons_of_mem _ hd)))]; rfl
    cases d with
    | agg cs => exact hl (show allL (clo f) cs = true from h)
    | tup cs => exact hl (show allL (clo f) cs = true from h)
    | fn g a c =>
      obtain ⟨h1,h2⟩ := and2 (show Bool.and (allL (clo f) a) (allL (clo f) c) = true from h)
      show appN (rfL (rd f) a) (rfL (rd f) c) = []
      rw [hl h1,hl h2]; rfl
    | iface t d => exact clo_rd (f := f) (show clo f d = true from h)
    | junk => cases h
    | ms => cases h
    | ptr => cases h
    | mp => cases h
    | ch => cases h
    | yld => cases h
    | _ => rfl
noncomputable def cloM (es : List (D × D)) : Bool := List.rec (motive := fun _ => Bool) true (fun p _ ih => Bool.rec (motive := fun _ => Bool) false (Bool.rec (motive := fun _ => Bool) false ih (cloq 20 p.2)) (cloq 20 p.1)) es
noncomputable def cloO (o : Ob) : Bool := @Ob.rec (fun _ => Bool) false (fun _ es => allLq (cloq 20) es) (fun es => cloM es) (fun _ => false) (fun _ _ => true) (fun _ _ => false) (fun _ _ _ _ _ _ => false) o
theorem cloM_cons {p : D × D} {es : List (D × D)} (h : cloM (p :: es) = true) : clo 20 p.1 = true ∧ clo 20 p.2 = true ∧ cloM es = true := by
  have h1 : Bool.rec (motive := fun _ => Bool) false (Bool.rec (motive := fun _ => Bool) false (cloM es) (cloq 20 p.2)) (cloq 20 p.1) = true := h
  rw [cloq_eq,cloq_eq] at h1
  cases ha : clo 20 p.1 with
  | false => rw [ha] at h1; cases h1
  | true => cases hb : clo 20 p.2 with
    | false => rw [ha,hb] at h1; cases h1
    | true => rw [ha,hb] at h1; exact ⟨rfl,rfl,h1⟩
theorem cloO_row {k : Nat} {es : List D} (h : cloO (.row k es) = true) : allL (clo 20) es = true := by
  have h1 : allLq (cloq 20) es = true := h
  rwa [allLq_to (fun d => cloq_eq)] at h1
theorem cloO_leak {n0 : Nat} {o : Ob} (h : cloO o = true) : obR1 n0 o = false := by
  cases o with
  | row k es =>
    show Bool.not (allL (fun d => Bool.not (hasR n0 20 d)) es) = false
    rw [allL_of (fun d hd => by rw [clo_hasR (allL_mem (cloO_row h) d hd)]; rfl)]; rfl
  | map es =>
    have h1 : cloM es = true := h
    clear h
    induction es with
    | nil => rfl
    | cons p es ih =>
      obtain ⟨a,b,c⟩ := cloM_cons h1
      show Bool.or (hasR n0 20 p.1) (Bool.or (hasR n0 20 p.2) (obR1 n0 (.map es))) = false
      rw [clo_hasR a,clo_hasR b,ih c]; rfl
  | sit => rfl
  | none => rfl
  | _ => cases h
theorem cloO_in {p : Nat → Bool} {o : Ob} (h : cloO o = true) : inO p o = true := by
  cases o with
  | row k es => exact allL_of (fun d hd => clo_inD (allL_mem (cloO_row h) d hd))
  | map es =>
    have h1 : cloM es = true := h
    clear h
    show inM p es = true
    induction es with
    | nil => rfl
    | cons x es ih =>
      obtain ⟨a,b,c⟩ := cloM_cons h1
      show Bool.and (inD p 20 x.1) (Bool.and (inD p 20 x.2) (inM p es)) = true
      rw [clo_inD a,clo_inD b,ih c]; rfl
  | sit => rfl
  | _ => cases h
theorem cloO_rd {o : Ob} (h : cloO o = true) : rdOb o = [] := by
  cases o with
  | row k es =>
    have h1 := cloO_row h
    clear h
    show rfL (rd 20) es = []
    induction es with
    | nil => rfl
    | cons a l ih =>
      show appN (rd 20 a) (rfL (rd 20) l) = []
      rw [clo_rd (allL_mem h1 a List.mem_cons_self),ih (allL_of (fun d hd => allL_mem h1 d (List.mem_cons_of_mem _ hd)))]; rfl
  | map es =>
    have h1 : cloM es = true := h
    clear h
    show rdMp es = []
    induction es with
    | nil => rfl
    | cons x es ih =>
      obtain ⟨a,b,c⟩ := cloM_cons h1
      show appN (rd 20 x.1) (appN (rd 20 x.2) (rdMp es)) = []
      rw [clo_rd a,clo_rd b,ih c]; rfl
  | sit => rfl
  | _ => cases h
noncomputable def leakc (n0 : Nat) (h : Hps) : Bool := (List.rec (motive := fun _ => Nat → Bool) (fun _ => false) (fun p _ ih n0 => Bool.rec (motive := fun _ => Bool) (ih n0) (Bool.rec (motive := fun _ => Bool) (Bool.rec (motive := fun _ => Bool) (ih n0) true (obRq n0 p.2)) (ih n0) (cloO p.2)) (Nat.blt p.1 n0)) h) n0
theorem leakc_eq {n0 : Nat} : ∀ {h : Hps},leakc n0 h = leak n0 h := by
  intro h
  induction h with
  | nil => rfl
  | cons p h ih =>
    show Bool.rec (motive := fun _ => Bool) (leakc n0 h) (Bool.rec (motive := fun _ => Bool) (Bool.rec (motive := fun _ => Bool) (leakc n0 h) true (obRq n0 p.2)) (leakc n0 h) (cloO p.2)) (Nat.blt p.1 n0) = Bool.rec (motive := fun _ => Bool) (leak n0 h) (Bool.or (obR1 n0 p.2) (leak n0 h)) (Nat.blt p.1 n0)
    rw [ih,obRq_eq,or_rec]
    cases hc : cloO p.2 with
    | true => rw [cloO_leak hc]; rfl
    | false => rfl
noncomputable def finishFq (n0 n : Nat) (h : Hps) (d d' : D) : Rd := Bool.rec (motive := fun _ => Rd) (Bool.rec (motive := fun _ => Rd) (.ok d' n0 (dropFrom n0 h)) (.ok d n h) (hasRq 20 n0 d')) (.ok d n h) (hasJq 20 d')
theorem finishFq_eq {n0 n : Nat} {h : Hps} {d d' : D} : finishFq n0 n h d d' = finishF n0 n h d d' := by unfold finishFq finishF; rw [hasJq_eq,hasRq_eq]; cases hasJ 20 d' <;> rfl
noncomputable def finishDq (n0 n : Nat) (h : Hps) (d : D) : Rd := Bool.rec (motive := fun _ => Rd) (Bool.rec (motive := fun _ => Rd) (finishFq n0 n h d (frzq 60 h n0 d)) (.ok d n h) (leakc n0 h)) (.ok d n h) (hasPq 20 n0 d)
theorem finishDq_eq {n0 n : Nat} {h : Hps} {d : D} : finishDq n0 n h d = finishD n0 n h d := by unfold finishDq finishD; rw [hasPq_eq,leakc_eq,finishFq_eq,frzq_eq]; cases hasP n0 20 d <;> rfl
noncomputable def rfLq (ih : D → List Nat) (l : List D) : List Nat := (List.rec (motive := fun _ => (D → List Nat) → List Nat) (fun _ => []) (fun d _ r ih => appN (ih d) (r ih)) l) ih
theorem rfLq_to {f g : D → List Nat} (hf : ∀ d,f d = g d) {l : List D} : rfLq f l = rfL g l := by
  rw [show f = g from funext hf]
  induction l with
  | nil => rfl
  | cons a l ih => show appN (g a) (rfLq g l) = appN (g a) (rfL g l); rw [ih]
noncomputable def rdq (fuel : Nat) (d : D) : List Nat := (Nat.rec (motive := fun _ => D → List Nat) (fun _ => []) (fun _ ih d => (@D.rec (fun _ => (D → List Nat) → List Nat) (fun _ => Unit) (fun _ => []) (fun _ _ _ => []) (fun _ _ => []) (fun _ _ => []) (fun _ => []) (fun _ => []) (fun _ => []) (fun _ => []) (fun _ => []) (fun r _ _ _ => [r]) (fun _ _ _ _ => []) (fun _ _ _ _ _ _ _ => []) (fun _ r _ _ _ _ => [r]) (fun r _ => [r]) (fun r _ => [r]) (fun r _ => [r]) (fun _ a c _ _ ih => appN (rfLq ih a) (rfLq ih c)) (fun _ d _ ih => ih d) (fun cs _ ih => rfLq ih cs) (fun cs _ ih => rfLq ih cs) () (fun _ _ _ _ => ()) d) ih) fuel) d
theorem rdq_eq : ∀ {f : Nat} {d : D},rdq f d = rd f d
  | 0,_ => rfl
  | f + 1,d => by
    have ih : ∀ d,rdq f d = rd f d := fun d => rdq_eq
    cases d with
    | iface t d => exact ih d
    | agg cs => exact rfLq_to ih
    | tup cs => exact rfLq_to ih
    | fn g a c => show appN (rfLq (rdq f) a) (rfLq (rdq f) c) = appN (rfL (rd f) a) (rfL (rd f) c); rw [rfLq_to ih,rfLq_to ih]
    | _ => rfl
noncomputable def inDq (fuel : Nat) (p : Nat → Bool) (d : D) : Bool := (Nat.rec (motive := fun _ => (Nat → Bool) → D → Bool) (fun _ _ => false) (fun _ ih p d => (@D.rec (fun _ => ((Nat → Bool) → D → Bool) → (Nat → Bool) → Bool) (fun _ => Unit) (fun _ _ => true) (fun _ _ _ _ => true) (fun _ _ _ => true) (fun _ _ _ => true) (fun _ _ => true) (fun _ _ => true) (fun _ _ => true) (fun _ _ => true) (fun _ _ => true) (fun r _ _ _ p => p r) (fun _ _ _ _ _ => true) (fun _ _ _ _ _ _ _ _ => true) (fun _ r _ _ _ _ p => p r) (fun r _ p => p r) (fun r _ p => p r) (fun r _ p => p r) (fun _ a c _ _ ih p => Bool.and (allLq (ih p) a) (allLq (ih p) c)) (fun _ d _ ih p => ih p d) (fun cs _ ih p => allLq (ih p) cs) (fun cs _ ih p => allLq (ih p) cs) () (fun _ _ _ _ => ()) d) ih p) fuel) p d
theorem inDq_eq {p : Nat → Bool} : ∀ {f : Nat} {d : D},inDq f p d = inD p f d
  | 0,_ => rfl
  | f + 1,d => by
    have ih : ∀ d,inDq f p d = inD p f d := fun d => inDq_eq
    cases d with
    | iface t d => exact ih d
    | agg cs => exact allLq_to ih
    | tup cs => exact allLq_to ih
    | fn g a c => show Bool.and (allLq (inDq f p) a) (allLq (inDq f p) c) = Bool.and (allL (inD p f) a) (allL (inD p f) c); rw [allLq_to ih,allLq_to ih]
    | _ => rfl
noncomputable def pickq (n : Nat) (h : Hps) (a b d : D) : Rd := (@D.rec (fun _ => Nat → Hps → D → D → Rd) (fun _ => Unit) (fun _ _ _ _ => .bad) (fun _ _ _ _ _ _ => .bad) (fun t n h a b => .ok (Bool.rec (motive := fun _ => D) b a t) n h) (fun _ _ _ _ _ => .bad) (fun _ _ _ _ => .bad) (fun _ _ _ _ => .bad) (fun _ _ _ _ => .bad) (fun _ _ _ _ => .bad) (fun _ _ _ _ => .bad) (fun _ _ _ _ _ _ _ => .bad) (fun _ _ _ _ _ _ _ => .bad) (fun _ _ _ _ _ _ _ _ _ _ => .bad) (fun _ _ _ _ _ _ _ _ _ => .bad) (fun _ _ _ _ _ => .bad) (fun _ _ _ _ _ => .bad) (fun _ _ _ _ _ => .bad) (fun _ _ _ _ _ _ _ _ _ => .bad) (fun _ _ _ _ _ _ _ => .bad) (fun _ _ _ _ _ _ => .bad) (fun _ _ _ _ _ _ => .bad) () (fun _ _ _ _ => ()) d) n h a b
theorem pickq_eq {n : Nat} {h : Hps} {a b d : D} : pickq n h a b d = pickD n h a b d := by cases d <;> rfl
noncomputable def notq (n : Nat) (h : Hps) (d : D) : Rd := (@D.rec (fun _ => Nat → Hps → Rd) (fun _ => Unit) (fun _ _ => .bad) (fun _ _ _ _ => .bad) (fun t n h => .ok (.bool (Bool.rec (motive := fun _ => Bool) true false t)) n h) (fun _ _ _ => .bad) (fun _ _ => .bad) (fun _ _ => .bad) (fun _ _ => .bad) (fun _ _ => .bad) (fun _ _ => .bad) (fun _ _ _ _ _ => .bad) (fun _ _ _ _ _ => .bad) (fun _ _ _ _ _ _ _ _ => .bad) (fun _ _ _ _ _ _ _ => .bad) (fun _ _ _ => .bad) (fun _ _ _ => .bad) (fun _ _ _ => .bad) (fun _ _ _ _ _ _ _ => .bad) (fun _ _ _ _ _ => .bad) (fun _ _ _ _ => .bad) (fun _ _ _ _ => .bad) () (fun _ _ _ _ => ()) d) n h
theorem notq_eq {n : Nat} {h : Hps} {d : D} : notq n h d = notD n h d := by cases d with | bool t => cases t <;> rfl | _ => rfl
noncomputable def faddrq (n : Nat) (h : Hps) (off : Nat) (d : D) : Rd := (@D.rec (fun _ => Nat → Hps → Nat → Rd) (fun _ => Unit) (fun _ _ _ => .bad) (fun _ _ _ _ _ => .bad) (fun _ _ _ _ => .bad) (fun _ _ _ _ => .bad) (fun _ _ _ => .bad) (fun _ _ _ => .bad) (fun _ _ _ => .bad) (fun _ _ _ => .bad) (fun _ _ _ => .bad) (fun r i j n h off => .ok (.ptr r i (j + off)) n h) (fun e j _ n h off => .ok (.ip e (j + off)) n h) (fun _ _ _ _ _ _ _ _ _ => .bad) (fun _ _ _ _ _ _ _ _ => .bad) (fun _ _ _ _ => .bad) (fun _ _ _ _ => .bad) (fun _ _ _ _ => .bad) (fun _ _ _ _ _ _ _ _ => .bad) (fun _ _ _ _ _ _ => .bad) (fun _ _ _ _ _ => .bad) (fun _ _ _ _ _ => .bad) () (fun _ _ _ _ => ()) d) n h off
theorem faddrq_eq {n : Nat} {h : Hps} {off : Nat} {d : D} : faddrq n h off d = faddrD n h off d := by cases d <;> rfl
noncomputable def fldq (n : Nat) (h : Hps) (ag : Bool) (off k : Nat) (d : D) : Rd := (@D.rec (fun _ => Nat → Hps → Bool → Nat → Nat → Rd) (fun _ => Unit) (fun _ _ _ _ _ => .bad) (fun _ _ _ _ _ _ _ => .bad) (fun _ _ _ _ _ _ => .bad) (fun _ _ _ _ _ _ => .bad) (fun _ _ _ _ _ => .bad) (fun _ _ _ _ _ => .bad) (fun _ _ _ _ _ => .bad) (fun _ _ _ _ _ => .bad) (fun _ _ _ _ _ => .bad) (fun _ _ _ _ _ _ _ _ => .bad) (fun _ _ _ _ _ _ _ _ => .bad) (fun _ _ _ _ _ _ _ _ _ _ _ => .bad) (fun _ _ _ _ _ _ _ _ _ _ => .bad) (fun _ _ _ _ _ _ => .bad) (fun _ _ _ _ _ _ => .bad) (fun _ _ _ _ _ _ => .bad) (fun _ _ _ _ _ _ _ _ _ _ => .bad) (fun _ _ _ _ _ _ _ _ => .bad) (fun cs _ n h ag off k => okDq n h (subA ag k off cs)) (fun _ _ _ _ _ _ _ => .bad) () (fun _ _ _ _ => ()) d) n h ag off k
theorem fldq_eq {n : Nat} {h : Hps} {ag : Bool} {off k : Nat} {d : D} : fldq n h ag off k d = fldD n h ag off k d := by cases d <;> first | exact okDq_eq | rfl
noncomputable def extq (n : Nat) (h : Hps) (i : Nat) (d : D) : Rd := (@D.rec (fun _ => Nat → Hps → Nat → Rd) (fun _ => Unit) (fun _ _ _ => .bad) (fun _ _ _ _ _ => .bad) (fun _ _ _ _ => .bad) (fun _ _ _ _ => .bad) (fun _ _ _ => .bad) (fun _ _ _ => .bad) (fun _ _ _ => .bad) (fun _ _ _ => .bad) (fun _ _ _ => .bad) (fun _ _ _ _ _ _ => .bad) (fun _ _ _ _ _ _ => .bad) (fun _ _ _ _ _ _ _ _ _ => .bad) (fun _ _ _ _ _ _ _ _ => .bad) (fun _ _ _ _ => .bad) (fun _ _ _ _ => .bad) (fun _ _ _ _ => .bad) (fun _ _ _ _ _ _ _ _ => .bad) (fun _ _ _ _ _ _ => .bad) (fun _ _ _ _ _ => .bad) (fun vs _ n h i => okDq n h (nth vs i)) () (fun _ _ _ _ => ()) d) n h i
theorem extq_eq {n : Nat} {h : Hps} {i : Nat} {d : D} : extq n h i d = extD n h i d := by cases d <;> first | exact okDq_eq | rfl
noncomputable def nilckq (n : Nat) (h : Hps) (d : D) : Rd := (@D.rec (fun _ => D → Nat → Hps → Rd) (fun _ => Unit) (fun _ _ _ => .bad) (fun _ _ _ _ _ => .bad) (fun _ _ _ _ => .bad) (fun _ _ _ _ => .bad) (fun _ _ _ => .bad) (fun _ _ _ => .bad) (fun _ _ _ => .bad) (fun _ _ _ => .bad) (fun _ _ _ => .bad) (fun _ _ _ d n h => .ok d n h) (fun _ _ _ d n h => .ok d n h) (fun _ _ _ _ _ _ _ _ _ => .bad) (fun _ _ _ _ _ _ _ _ => .bad) (fun _ _ _ _ => .bad) (fun _ _ _ _ => .bad) (fun _ _ _ _ => .bad) (fun _ _ _ _ _ d n h => .ok d n h) (fun _ _ _ _ _ _ => .bad) (fun _ _ _ _ _ => .bad) (fun _ _ _ _ _ => .bad) () (fun _ _ _ _ => ()) d) d n h
theorem nilckq_eq {n : Nat} {h : Hps} {d : D} : nilckq n h d = nilckD n h d := by cases d <;> rfl
noncomputable def iaddrq (n : Nat) (h : Hps) (k : Nat) (x : D) (i : Nat) : Rd := (@D.rec (fun _ => Nat → Hps → Nat → Nat → Rd) (fun _ => Unit) (fun _ _ _ _ => .bad) (fun _ _ _ _ _ _ => .bad) (fun _ _ _ _ _ => .bad) (fun _ _ _ _ _ => .bad) (fun _ _ _ _ => .bad) (fun _ _ _ _ => .bad) (fun _ _ _ _ => .bad) (fun _ _ _ _ => .bad) (fun _ _ _ _ => .bad) (fun _ _ _ _ _ _ _ => .bad) (fun _ _ _ _ _ _ _ => .bad) (fun k2 es _ _ _ _ n h k i => ifR (Bool.and (Nat.blt i (lenL es)) (Nat.beq k k2)) (.ok (.ip (nth es i) 0) n h)) (fun k2 r off len _ n h k i => ifR (Bool.and (Nat.blt i len) (Nat.beq k k2)) (.ok (.ptr r (off + i) 0) n h)) (fun _ _ _ _ _ => .bad) (fun _ _ _ _ _ => .bad) (fun _ _ _ _ _ => .bad) (fun _ _ _ _ _ _ _ _ _ => .bad) (fun _ _ _ _ _ _ _ => .bad) (fun _ _ _ _ _ _ => .bad) (fun _ _ _ _ _ _ => .bad) () (fun _ _ _ _ => ()) x) n h k i
theorem iaddrq_eq {n : Nat} {h : Hps} {k : Nat} {x : D} {i : Nat} : iaddrq n h k x i = iaddrD n h k x i := by cases x <;> rfl
noncomputable def lenSq (n : Nat) (h : Hps) (d : D) : Rd := (@D.rec (fun _ => Nat → Hps → Rd) (fun _ => Unit) (fun _ _ => .bad) (fun _ _ _ _ => .bad) (fun _ _ _ => .bad) (fun s n h => .ok (.int .i64 (.ofNat (lenN s))) n h) (fun _ _ => .bad) (fun _ _ => .bad) (fun _ _ => .bad) (fun _ _ => .bad) (fun _ _ => .bad) (fun _ _ _ _ _ => .bad) (fun _ _ _ _ _ => .bad) (fun _ _ _ _ _ _ _ _ => .bad) (fun _ _ _ _ _ _ _ => .bad) (fun _ _ _ => .bad) (fun _ _ _ => .bad) (fun _ _ _ => .bad) (fun _ _ _ _ _ _ _ => .bad) (fun _ _ _ _ _ => .bad) (fun _ _ _ _ => .bad) (fun _ _ _ _ => .bad) () (fun _ _ _ _ => ()) d) n h
theorem lenSq_eq {n : Nat} {h : Hps} {d : D} : lenSq n h d = lenS n h d := by cases d <;> rfl
noncomputable def lenLq (n : Nat) (h : Hps) (d : D) : Rd := (@D.rec (fun _ => Nat → Hps → Rd) (fun _ => Unit) (fun _ _ => .bad) (fun _ _ _ _ => .bad) (fun _ _ _ => .bad) (fun _ _ _ => .bad) (fun _ _ => .bad) (fun _ _ => .bad) (fun _ _ => .bad) (fun _ _ => .bad) (fun n h => .ok (.int .i64 (.ofNat 0)) n h) (fun _ _ _ _ _ => .bad) (fun _ _ _ _ _ => .bad) (fun _ es _ _ _ _ n h => .ok (.int .i64 (.ofNat (lenL es))) n h) (fun _ _ _ l _ n h => .ok (.int .i64 (.ofNat l)) n h) (fun _ _ _ => .bad) (fun _ _ _ => .bad) (fun _ _ _ => .bad) (fun _ _ _ _ _ _ _ => .bad) (fun _ _ _ _ _ => .bad) (fun _ _ _ _ => .bad) (fun _ _ _ _ => .bad) () (fun _ _ _ _ => ()) d) n h
theorem lenLq_eq {n : Nat} {h : Hps} {d : D} : lenLq n h d = lenC n h d := by cases d <;> rfl
noncomputable def bslq (n : Nat) (h : Hps) (k : Nat) (l : List D) : Rd := Bool.rec (motive := fun _ => Rd) (ifR (allLq (okFq k) l) (.ok (.ms k n 0 (lenL l) true) n ((n,.row k l) :: h))) (.ok (.sl k l [] true) n h) (allLq (okEq k) l)
theorem bslq_eq {n : Nat} {h : Hps} {k : Nat} {l : List D} : bslq n h k l = bslD n h k l := by unfold bslq bslD; rw [allLq_to (fun d => okFq_eq),allLq_to (fun d => okEq_eq)]
noncomputable def boxq (n : Nat) (h : Hps) (k : Nat) (d : D) : Rd := (@D.rec (fun _ => D → Nat → Hps → Nat → Rd) (fun _ => Unit) (fun _ _ _ _ => .bad) (fun _ _ d n h k => ifR (Nat.beq k 1) (.ok (.ptr n 0 0) n ((n,.row k [d]) :: h))) (fun _ d n h k => ifR (Nat.beq k 1) (.ok (.ptr n 0 0) n ((n,.row k [d]) :: h))) (fun _ d n h k => ifR (Nat.beq k 1) (.ok (.ptr n 0 0) n ((n,.row k [d]) :: h))) (fun d n h k => ifR (Nat.beq k 1) (.ok (.ptr n 0 0) n ((n,.row k [d]) :: h))) (fun d n h k => ifR (Nat.beq k 1) (.ok (.ptr n 0 0) n ((n,.row k [d]) :: h))) (fun d n h k => ifR (Nat.beq k 1) (.ok (.ptr n 0 0) n ((n,.row k [d]) :: h))) (fun d n h k => ifR (Nat.beq k 1) (.ok (.ptr n 0 0) n ((n,.row k [d]) :: h))) (fun d n h k => ifR (Nat.beq k 1) (.ok (.ptr n 0 0) n ((n,.row k [d]) :: h))) (fun _ _ _ d n h k => ifR (Nat.beq k 1) (.ok (.ptr n 0 0) n ((n,.row k [d]) :: h))) (fun _ _ _ d n h k => ifR (Nat.beq k 1) (.ok (.ptr n 0 0) n ((n,.row k [d]) :: h))) (fun _ _ _ _ _ _ d n h k => ifR (Nat.beq k 1) (.ok (.ptr n 0 0) n ((n,.row k [d]) :: h))) (fun _ _ _ _ _ d n h k => ifR (Nat.beq k 1) (.ok (.ptr n 0 0) n ((n,.row k [d]) :: h))) (fun _ d n h k => ifR (Nat.beq k 1) (.ok (.ptr n 0 0) n ((n,.row k [d]) :: h))) (fun _ d n h k => ifR (Nat.beq k 1) (.ok (.ptr n 0 0) n ((n,.row k [d]) :: h))) (fun _ d n h k => ifR (Nat.beq k 1) (.ok (.ptr n 0 0) n ((n,.row k [d]) :: h))) (fun _ _ _ _ _ d n h k => ifR (Nat.beq k 1) (.ok (.ptr n 0 0) n ((n,.row k [d]) :: h))) (fun _ _ _ d n h k => ifR (Nat.beq k 1) (.ok (.ptr n 0 0) n ((n,.row k [d]) :: h))) (fun cs _ d n h k => ifR (Nat.beq k (lenL cs)) (.ok (.ptr n 0 0) n ((n,.row k [d]) :: h))) (fun _ _ _ _ _ _ => .bad) () (fun _ _ _ _ => ()) d) d n h k
theorem boxq_eq {n : Nat} {h : Hps} {k : Nat} {d : D} : boxq n h k d = boxD n h k d := by cases d <;> rfl

end Go.Proofs.YtpbpmpabndgeeaaGreatDoor
