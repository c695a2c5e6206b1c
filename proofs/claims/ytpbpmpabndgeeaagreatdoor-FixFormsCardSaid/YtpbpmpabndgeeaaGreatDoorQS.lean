/- Maps whose keys are structs of ints, in the fast form: the keys are held against one another as numbers. No condition. -/
import Derived.Test.YtpbpmpabndgeeaaGreatDoorQC
set_option linter.unusedSimpArgs false
set_option linter.unusedVariables false
namespace Go.Proofs.YtpbpmpabndgeeaaGreatDoor
open Go

noncomputable def intK (K : Nat → Nat) (i : Int) : Nat := Int.rec (motive := fun _ => Nat) (fun m => Bool.rec (motive := fun _ => Nat) 0 (K m) (Nat.blt m 65536)) (fun _ => 0) i
noncomputable def fieldK (d : D) (K : Nat → Nat) : Nat := (@D.rec (fun _ => (Nat → Nat) → Nat) (fun _ => Unit) (fun _ => 0) (fun k i K => @IntKind.rec (fun _ => Nat) 0 0 0 (intK K i) 0 0 0 0 k) (fun _ _ => 0) (fun _ _ => 0) (fun _ => 0) (fun _ => 0) (fun _ => 0) (fun _ => 0) (fun _ => 0) (fun _ _ _ _ => 0) (fun _ _ _ _ => 0) (fun _ _ _ _ _ _ _ => 0) (fun _ _ _ _ _ _ => 0) (fun _ _ => 0) (fun _ _ => 0) (fun _ _ => 0) (fun _ _ _ _ _ _ => 0) (fun _ _ _ _ => 0) (fun _ _ _ => 0) (fun _ _ _ => 0) () (fun _ _ _ _ => ()) d) K
theorem fieldK_inv {d : D} {K : Nat → Nat} (h : fieldK d K ≠ 0) : ∃ m,d = .int .i64 (.ofNat m) ∧ m < 65536 ∧ fieldK d K = K m := by
  cases d with
  | int k i =>
    cases k <;> first | exact absurd rfl h | skip
    cases i with
    | negSucc m => exact absurd rfl h
    | ofNat m =>
      have h1 : Bool.rec (motive := fun _ => Nat) 0 (K m) (Nat.blt m 65536) ≠ 0 := h
      cases hb : Nat.blt m 65536 with
      | false => rw [hb] at h1; exact absurd rfl h1
      | true =>
        refine ⟨m,rfl,Nat.le_of_ble_eq_true hb,?_⟩
        show Bool.rec (motive := fun _ => Nat) 0 (K m) (Nat.blt m 65536) = K m
        rw [hb]
  | _ => exact absurd rfl h
noncomputable def pkL (n : Nat) (l : List D) (a : Nat) : Nat := (Nat.rec (motive := fun _ => List D → Nat → Nat) (fun _ a => a) (fun _ ih l a => List.rec (motive := fun _ => Nat) 0 (fun d t _ => fieldK d fun m => ih t (Nat.add (Nat.mul a 65536) m)) l) n) l a
noncomputable def pkq (n : Nat) (d : D) : Nat := (@D.rec (fun _ => Nat → Nat) (fun _ => Unit) (fun _ => 0) (fun _ _ _ => 0) (fun _ _ => 0) (fun _ _ => 0) (fun _ => 0) (fun _ => 0) (fun _ => 0) (fun _ => 0) (fun _ => 0) (fun _ _ _ _ => 0) (fun _ _ _ _ => 0) (fun _ _ _ _ _ _ _ => 0) (fun _ _ _ _ _ _ => 0) (fun _ _ => 0) (fun _ _ => 0) (fun _ _ => 0) (fun _ _ _ _ _ _ => 0) (fun _ _ _ _ => 0) (fun cs _ n => pkL n cs 1) (fun _ _ _ => 0) () (fun _ _ _ _ => ()) d) n
theorem pkL_pos {n : Nat} : ∀ {l : List D} {a : Nat},pkL (n + 1) l a ≠ 0 → ∃ m t,l = .int .i64 (.ofNat m) :: t ∧ m < 65536 ∧ pkL (n + 1) l a = pkL n t (a * 65536 + m)
  | [],_,h => absurd rfl h
  | d :: t,a,h => by
    obtain ⟨m,rfl,h1,h2⟩ := fieldK_inv (d := d) (K := fun m => pkL n t (Nat.add (Nat.mul a 65536) m)) h
    exact ⟨m,t,rfl,h1,h2⟩
def ints (n : Nat) : List EK := List.replicate n (.int .i64)
theorem pkL_eq {n : Nat} : ∀ {l m : List D} {a b : Nat},pkL n l a ≠ 0 → pkL n m b ≠ 0 → ∃ t,eqL (ints n) l m = .ok t ∧ (a = b → t = Nat.beq (pkL n l a) (pkL n m b)) ∧ (a ≠ b → pkL n l a ≠ pkL n m b) := by
  induction n with
  | zero =>
    intro l m a b _ _
    refine ⟨true,rfl,fun e => ?_,fun e => e⟩
    show true = Nat.beq a b
    rw [e,Nat.beq_refl]
  | succ n ih =>
    intro l m a b hl hm
    obtain ⟨x,t,rfl,x1,x2⟩ := pkL_pos hl
    obtain ⟨y,u,rfl,y1,y2⟩ := pkL_pos hm
    rw [x2] at hl ⊢
    rw [y2] at hm ⊢
    obtain ⟨q,q1,q2,q3⟩ := ih hl hm
    have e0 : eqL (ints (n + 1)) (.int .i64 (.ofNat x) :: t) (.int .i64 (.ofNat y) :: u) = andOB (.ok (Nat.beq x y)) (eqL (ints n) t u) := rfl
    refine ⟨Bool.and (Nat.beq x y) q,by rw [e0,q1]; rfl,fun e => ?_,fun e => q3 (by omega)⟩
    subst e
    by_cases hxy : x = y
    · subst hxy
      rw [Nat.beq_refl,q2 rfl]
      rfl
    · have h1 : Nat.beq x y = false := by
        cases hb : Nat.beq x y with
        | false => rfl
        | true => exact absurd (beq_eq hb) hxy
      rw [h1]
      have h2 := q3 (show a * 65536 + x ≠ a * 65536 + y by omega)
      cases hb : Nat.beq (pkL n t (a * 65536 + x)) (pkL n u (a * 65536 + y)) with
      | false => rfl
      | true => exact absurd (beq_eq hb) h2
theorem pkq_inv {n : Nat} {d : D} (h : pkq n d ≠ 0) : ∃ cs,d = .agg cs ∧ pkq n d = pkL n cs 1 := by
  cases d with
  | agg cs => exact ⟨cs,rfl,rfl⟩
  | _ => exact absurd rfl h
theorem pkq_eq {n : Nat} {a b : D} (ha : pkq n a ≠ 0) (hb : pkq n b ≠ 0) : eqD (.struct (ints n)) a b = .ok (Nat.beq (pkq n a) (pkq n b)) := by
  obtain ⟨cs,rfl,h1⟩ := pkq_inv ha
  obtain ⟨ds,rfl,h2⟩ := pkq_inv hb
  obtain ⟨t,e1,e2,_⟩ := pkL_eq (l := cs) (m := ds) (a := 1) (b := 1) ha hb
  show eqL (ints n) cs ds = _
  rw [e1,e2 rfl]
  rfl
theorem pkL_len {n : Nat} : ∀ {l : List D} {a : Nat},pkL n l a ≠ 0 → n ≤ lenL l := by
  induction n with
  | zero => intro _ _ _; exact Nat.zero_le _
  | succ n ih =>
    intro l a h
    obtain ⟨x,t,rfl,x1,x2⟩ := pkL_pos h
    rw [x2] at h
    exact Nat.succ_le_succ (ih h)
theorem keyAt_pk {n : Nat} {k : D} (h : pkq n k ≠ 0) : keyAt (.struct (ints n)) k = true := by
  obtain ⟨cs,rfl,h1⟩ := pkq_inv h
  show Nat.ble (List.length (ints n)) (lenL cs) = true
  rw [ints,List.length_replicate]
  rw [h1] at h
  exact Nat.ble_eq_true_of_le (pkL_len h)
noncomputable def findS (n : Nat) (k : D) (K : Nat) (es : List (D × D)) : FK := (List.rec (motive := fun _ => Nat → D → Nat → FK) (fun _ _ _ => .none) (fun p _ ih n k K => Bool.rec (motive := fun _ => FK) (Bool.rec (motive := fun _ => FK) (ih n k K) (findK1 (ih n k K) p.2 (eqD (.struct (ints n)) k p.1)) (Nat.beq (pkq n p.1) 0)) (.some p.2) (Nat.beq (pkq n p.1) K)) es) n k K
theorem findS_eq {n : Nat} {k : D} (hk : pkq n k ≠ 0) : ∀ {es : List (D × D)},findS n k (pkq n k) es = findK (.struct (ints n)) k es
  | [] => rfl
  | p :: es => by
    have ih := findS_eq hk (es := es)
    show Bool.rec (motive := fun _ => FK) (Bool.rec (motive := fun _ => FK) (findS n k (pkq n k) es) (findK1 (findS n k (pkq n k) es) p.2 (eqD (.struct (ints n)) k p.1)) (Nat.beq (pkq n p.1) 0)) (.some p.2) (Nat.beq (pkq n p.1) (pkq n k)) = findK1 (findK (.struct (ints n)) k es) p.2 (eqD (.struct (ints n)) k p.1)
    rw [ih]
    cases h1 : Nat.beq (pkq n p.1) (pkq n k) with
    | true =>
      have e := beq_eq h1
      rw [pkq_eq hk (by rw [e]; exact hk),e,Nat.beq_refl]
      rfl
    | false =>
      cases h2 : Nat.beq (pkq n p.1) 0 with
      | true => rfl
      | false =>
        have h3 : pkq n p.1 ≠ 0 := fun e => by rw [e] at h2; cases h2
        rw [pkq_eq hk h3]
        have h4 : Nat.beq (pkq n k) (pkq n p.1) = false := by
          cases hb : Nat.beq (pkq n k) (pkq n p.1) with
          | false => rfl
          | true => rw [beq_eq hb,Nat.beq_refl] at h1; cases h1
        rw [h4]
        rfl
noncomputable def findCS (n : Nat) (k : D) (es : List (D × D)) : FK := Bool.rec (motive := fun _ => FK) (findS n k (pkq n k) es) (findC (.struct (ints n)) k es) (Nat.beq (pkq n k) 0)
theorem findCS_eq {n : Nat} {k : D} {es : List (D × D)} : findCS n k es = findC (.struct (ints n)) k es := by
  unfold findCS
  cases h : Nat.beq (pkq n k) 0 with
  | true => rfl
  | false =>
    have hk : pkq n k ≠ 0 := fun e => by rw [e] at h; cases h
    show findS n k (pkq n k) es = _
    rw [findS_eq hk]
    unfold findC
    rw [keyAt_pk hk]
noncomputable def lookOS (n : Nat) (h : Hps) (m : Nat) (z : D) (ok : Bool) (k : D) (o : Ob) : Rd := @Ob.rec (fun _ => Rd) .bad (fun _ _ => .bad) (fun es => lookF n h z ok (findCS m k es)) (fun _ => .bad) (fun _ _ => .bad) (fun _ _ => .bad) (fun _ _ _ _ _ _ => .bad) o
theorem lookOS_eq {n : Nat} {h : Hps} {m : Nat} {z : D} {ok : Bool} {k : D} {o : Ob} : lookOS n h m z ok k o = lookR n h (.struct (ints m)) z ok k o := by
  cases o with
  | map es => show lookF n h z ok (findCS m k es) = lookF n h z ok (findC (.struct (ints m)) k es); rw [findCS_eq]
  | _ => rfl
noncomputable def lookS (n : Nat) (h : Hps) (m : Nat) (z : D) (ok : Bool) (k : D) (x : D) : Rd := match x with
  | .mp r => lookOS n h m z ok k (getOq h r)
  | x => lookD n h (.struct (ints m)) z ok k x
theorem lookS_eq {n : Nat} {h : Hps} {m : Nat} {z : D} {ok : Bool} {k x : D} : lookS n h m z ok k x = lookD n h (.struct (ints m)) z ok k x := by
  cases x with
  | mp r => show lookOS n h m z ok k (getOq h r) = lookR n h (.struct (ints m)) z ok k (getO h r); rw [lookOS_eq,getOq_eq]
  | _ => rfl
noncomputable def qLookS (t : Nat) (z : D) (ok : Bool) (m i : QO) : QOp := mkOp (fun E n h => lookS n h t z ok (i.g E) (m.g E)) (fun E n => refOq (m.g E)) (.look (.struct (ints t)) z ok m.o i.o) rfl (fun E e n h r => by rw [lookS_eq,m.ok E e r,i.ok E e r]; rfl) (fun E e n r => by rw [refOq_eq,m.ok E e r]; rfl)

noncomputable def endS (k x : D) (es : List (D × D)) : List (D × D) := (List.rec (motive := fun _ => D → D → List (D × D)) (fun k x => [(k,x)]) (fun p _ ih k x => p :: ih k x) es) k x
theorem findK_none {t : EK} {k x : D} : ∀ {es : List (D × D)},findK t k es = .none → putK t k x es = endS k x es
  | [],_ => rfl
  | p :: es,h => by
    have h1 : findK1 (findK t k es) p.2 (eqD t k p.1) = .none := h
    show putK1 k x p es (putK t k x es) (eqD t k p.1) = p :: endS k x es
    cases hq : eqD t k p.1 with
    | bad => rw [hq] at h1; cases h1
    | ok b =>
      rw [hq] at h1
      cases b with
      | true => cases h1
      | false => rw [← findK_none (x := x) (es := es) h1]; rfl
noncomputable def mupdS1 (n : Nat) (h : Hps) (r : Nat) (es : List (D × D)) (k x : D) (f : FK) : Rd := @FK.rec (fun _ => Rd) .bad (.ok .junk n (setO h r (.map (endS k x es)))) (fun _ => .bad) f
noncomputable def mupdOS (n : Nat) (h : Hps) (m r : Nat) (k x : D) (o : Ob) : Rd := @Ob.rec (fun _ => Rd) .bad (fun _ _ => .bad) (fun es => mupdS1 n h r es k x (findCS m k es)) (fun _ => .bad) (fun _ _ => .bad) (fun _ _ => .bad) (fun _ _ _ _ _ _ => .bad) o
theorem mupdOS_eq {n : Nat} {h : Hps} {m r : Nat} {k x : D} {o : Ob} : mupdOS n h m r k x o = mupdR n h (.struct (ints m)) r k x o := by
  cases o with
  | map es =>
    show mupdS1 n h r es k x (findCS m k es) = mupdG n h r (putK (.struct (ints m)) k x es) (findC (.struct (ints m)) k es)
    rw [findCS_eq]
    cases hf : findC (.struct (ints m)) k es with
    | none =>
      have h1 : findK (.struct (ints m)) k es = .none := by
        rw [← hf]
        unfold findC at hf ⊢
        cases hk : keyAt (.struct (ints m)) k with
        | true => rfl
        | false => rw [hk] at hf; cases hf
      rw [findK_none h1]
      rfl
    | _ => rfl
  | _ => rfl
noncomputable def mupdS (n : Nat) (h : Hps) (m : Nat) (k x d : D) : Rd := match d with
  | .mp r => mupdOS n h m r k x (getOq h r)
  | d => mupdD n h (.struct (ints m)) k x d
theorem mupdS_eq {n : Nat} {h : Hps} {m : Nat} {k x d : D} : mupdS n h m k x d = mupdD n h (.struct (ints m)) k x d := by
  cases d with
  | mp r => show mupdOS n h m r k x (getOq h r) = mupdR n h (.struct (ints m)) r k x (getO h r); rw [mupdOS_eq,getOq_eq]
  | _ => rfl
noncomputable def qMupdS (t : Nat) (m i x : QO) : QOp := mkOp (fun E n h => mupdS n h t (i.g E) (x.g E) (m.g E)) (fun E n => refOq (m.g E)) (.mupd (.struct (ints t)) m.o i.o x.o) rfl (fun E e n h r => by rw [mupdS_eq,m.ok E e r,i.ok E e r,x.ok E e r]; rfl) (fun E e n r => by rw [refOq_eq,m.ok E e r]; rfl)
end Go.Proofs.YtpbpmpabndgeeaaGreatDoor
