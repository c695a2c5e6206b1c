/- All code: what its run over data comes to is what it comes to in the model. No condition. -/
import Derived.Test.YtdijijblccmfbaaA21
import Derived.Scope
set_option linter.unusedSimpArgs false
set_option linter.unusedVariables false
namespace Go.Proofs.Ytdijijblccmfbaa
open Go

section
variable {P : Program} {K : Nat → Bool}

/-- the same of a region that leaves its order open -/
def DrawOk (P : Program) (X : RunF) : Prop :=
  ∀ {id : Nat} {ops : Array Oper} {s0 : Nat} {ro : Option Nat} {m : Nat} {Fb : Nat → Prop} {β : Nat → Bk} {n : Nat} {h : Hps} {e : Tr} {a : Act} {w : World} {x : Ex} {e' : Tr} {n' : Nat} {h' : Hps} {Q : Exit → Act → World → Prop},
    St P s0 ro m Fb β n h e a w → drawOk (Region.before ops) ops (ops.toList.map (cOper P m ops)) = true → runDraw stride (callX (cFk K P) X) (ops.toList.map (cOper P m ops)) (cUn P m ops) (cBar P m ops) [] e n h = .ok x e' n' h' →
    (∀ β' a' w', St P s0 ro m Fb β' n' h' e' a' w' → Adv β (Lt n) h w β' (Lt n') h' w' → Q (exOf x) a' w') → (Code.region id ops true).wpIn (FR ro) 0 P Q a w

theorem seqR_inv {X : RunF} {b : DCode} {r : Re} {x : Ex} {e' : Tr} {n' : Nat} {h' : Hps} (hd : seqR X b r = .ok x e' n' h') :
    ∃ x1 e1 n1 h1, r = .ok x1 e1 n1 h1 ∧ ((x1 = .normal ∧ X b e1 n1 h1 = .ok x e' n' h') ∨ (x1 ≠ .normal ∧ x1 = x ∧ e1 = e' ∧ n1 = n' ∧ h1 = h')) := by
  cases r with
  | bad => cases hd
  | ok x1 e1 n1 h1 =>
    refine ⟨x1, e1, n1, h1, rfl, ?_⟩
    cases x1 with
    | normal => exact .inl ⟨rfl, hd⟩
    | exit i => cases hd; exact .inr ⟨(fun h => by cases h), rfl, rfl, rfl, rfl⟩
    | ret => cases hd; exact .inr ⟨(fun h => by cases h), rfl, rfl, rfl, rfl⟩

theorem stepR_scope {b : Frame} {a : Act} {k : List Item} {cs : List Frame} {w : World} {c : Code} : Go.step P (lone (b.atR a (.code (.scope c) :: k)) cs w) = .next (lone (b.atR a (.code c :: .inScope c :: k)) cs w) :=
  step_lone_go (by simp [stepG, stepG.exec, Frame.atR])
theorem stepR_inScope {b : Frame} {a : Act} {k : List Item} {cs : List Frame} {w : World} {c : Code} : Go.step P (lone (b.atR a (.inScope c :: k)) cs w) = .next (lone (b.atR a k) cs w) :=
  step_lone_go (by simp [stepG, stepG.exec, Frame.atR])
/-- a scope through which the run goes without a jump to a label -/
theorem wpIn_scope {F : Fence} {n : Nat} {Q : Exit → Act → World → Prop} {a : Act} {w : World} {c : Code} (h : c.wpIn F n P (Exit.noGoto Q) a w) : (Code.scope c).wpIn F n P Q a w := by
  intro b k cs hro hb hr
  have h0 : (lone (b.atR a (.code (.scope c) :: k)) cs w).fenced P F := fenced_calm hb hr rfl
  obtain ⟨e, a₁, w₁, hq, harr⟩ := h b (.inScope c :: k) cs hro hb hr
  cases e with
  | normal => exact ⟨.normal, a₁, w₁, hq, .head h0 stepR_scope (StepsIn.trans harr (.one (fenced_calm hb hr rfl) stepR_inScope))⟩
  | exit id' =>
    have hx : exitTo id' (.inScope c :: k) = exitTo id' k := by simp [exitTo]
    exact ⟨.exit id', a₁, w₁, hq, fun k' hk => .head h0 stepR_scope (harr.1 k' (by rw [hx]; exact hk)),
      fun hr' hk => let ⟨k₁, h1, h2⟩ := harr.2 hr' (by rw [hx]; exact hk); ⟨k₁, h1, .head h0 stepR_scope h2⟩⟩
  | goto l => exact hq.elim
  | ret => exact ⟨_, a₁, w₁, hq, .of_steps (.one h0 stepR_scope) harr⟩
  | panic ch => exact ⟨_, a₁, w₁, hq, .of_steps (.one h0 stepR_scope) harr⟩
  | outgrown => exact ⟨_, a₁, w₁, hq, .of_steps (.one h0 stepR_scope) harr⟩

theorem exec_bad (F : Nat → DFn) (f : Nat) (e : Tr) (n : Nat) (h : Hps) : exec F f .bad e n h = .bad := by cases f <;> rfl

/-- a loop's rounds -/
theorem loop_ok {fuel : Nat} (hIH : ∀ f, f ≤ fuel → CodeOk P (exec (cFk K P) f)) {c : Code} {s0 : Nat} {ro : Option Nat} {m : Nat} {Fb : Nat → Prop} {Q : Exit → Act → World → Prop} {x : Ex} {e' : Tr} {n' : Nat} {h' : Hps} :
    ∀ (f : Nat), f ≤ fuel + 1 → ∀ {β : Nat → Bk} {n : Nat} {h : Hps} {e : Tr} {a : Act} {w : World}, St P s0 ro m Fb β n h e a w → exec (cFk K P) f (.loop (cCode P m c)) e n h = .ok x e' n' h' →
      (∀ β' a' w', St P s0 ro m Fb β' n' h' e' a' w' → Adv β (Lt n) h w β' (Lt n') h' w' → Q (exOf x) a' w') → Code.roundsIn (FR ro) 0 P c Q f a w := by
  intro f
  induction f with
  | zero => intro _ β n h e a w S hd hQ; cases hd
  | succ f ih =>
    intro hf β n h e a w S hd hQ
    rw [roundsIn_succ]
    obtain ⟨x1, e1, n1, h1, g1, g2⟩ := seqR_inv (show seqR (exec (cFk K P) f) (.loop (cCode P m c)) (exec (cFk K P) f (cCode P m c) e n h) = .ok x e' n' h' from hd)
    refine hIH f (by omega) S g1 (fun β1 a1 w1 S1 A1 => ?_)
    rcases g2 with ⟨rfl, g2⟩ | ⟨g2, rfl, rfl, rfl, rfl⟩
    · exact ih (by omega) S1 g2 (fun β2 a2 w2 S2 A2 => hQ β2 a2 w2 S2 (A1.trans A2))
    · have := hQ β1 a1 w1 S1 A1
      cases x1 with
      | normal => exact absurd rfl g2
      | exit i => exact this
      | ret => exact this

theorem exec_ok (hD : ∀ X, CodeOk P X → (∀ e n h, X .bad e n h = .bad) → DrawOk (K := K) P X) (hS : ∀ X, CodeOk P X → (∀ e n h, X .bad e n h = .bad) → SoloOk K P X) : ∀ fuel, CodeOk P (exec (cFk K P) fuel) := by
  intro fuel
  induction fuel using Nat.strongRecOn with
  | _ fuel IH =>
  cases fuel with
  | zero => intro c s0 ro m Fb β n h e a w x e' n' h' Q S hd hQ; cases hd
  | succ f =>
    have hX : CodeOk P (exec (cFk K P) f) := @IH f (Nat.lt_succ_self _)
    have hXb := exec_bad (cFk K P) f
    intro c s0 ro m Fb β n h e a w x e' n' h' Q S hd hQ
    replace hd : step (cFk K P) (exec (cFk K P) f) (cCode P m c) e n h = .ok x e' n' h' := hd
    cases c with
    | skip => cases hd; exact wpIn_skip (hQ _ _ _ S (Adv.refl _ _ _ _))
    | label l => cases hd; exact wpIn_label (hQ _ _ _ S (Adv.refl _ _ _ _))
    | ret => cases hd; exact wpIn_ret (hQ _ _ _ S (Adv.refl _ _ _ _))
    | exit i => cases hd; exact wpIn_exit (hQ _ _ _ S (Adv.refl _ _ _ _))
    | seq c1 c2 =>
      obtain ⟨x1, e1, n1, h1, g1, g2⟩ := seqR_inv (show seqR (exec (cFk K P) f) (cCode P m c2) (exec (cFk K P) f (cCode P m c1) e n h) = .ok x e' n' h' from hd)
      refine wpIn_seq (hX S g1 (fun β1 a1 w1 S1 A1 => ?_))
      rcases g2 with ⟨rfl, g2⟩ | ⟨g2, rfl, rfl, rfl, rfl⟩
      · exact hX S1 g2 (fun β2 a2 w2 S2 A2 => hQ β2 a2 w2 S2 (A1.trans A2))
      · have := hQ β1 a1 w1 S1 A1
        cases x1 with
        | normal => exact absurd rfl g2
        | exit i => exact this
        | ret => exact this
    | cond c0 c1 c2 =>
      replace hd : condR (exec (cFk K P) f) (cCode P m c1) (cCode P m c2) e n h (ev e (cO m c0)) = .ok x e' n' h' := hd
      have hev := ev_ok S.env S.sz c0
      revert hd hev
      generalize ev e (cO m c0) = G
      intro hd hev
      cases G with
      | bool t =>
        refine wpIn_cond (Rep.bool_inv hev) ?_
        cases t with
        | false => exact hX S hd hQ
        | true => exact hX S hd hQ
      | _ => cases hd
    | block i b =>
      replace hd : blockR i (exec (cFk K P) f (cCode P m b) e n h) = .ok x e' n' h' := hd
      cases hb : exec (cFk K P) f (cCode P m b) e n h with
      | bad => rw [hb] at hd; cases hd
      | ok x1 e1 n1 h1 =>
        rw [hb] at hd
        refine wpIn_block (hX S hb (fun β1 a1 w1 S1 A1 => ?_))
        cases x1 with
        | normal => cases hd; exact hQ β1 a1 w1 S1 A1
        | ret => cases hd; exact hQ β1 a1 w1 S1 A1
        | exit j =>
          replace hd : Bool.rec (motive := fun _ => Re) (.ok (.exit j) e1 n1 h1) (.ok .normal e1 n1 h1) (Nat.beq j i) = .ok x e' n' h' := hd
          show if j = i then _ else _
          cases hb2 : Nat.beq j i with
          | true =>
            rw [hb2] at hd
            cases hd
            rw [if_pos (beq_eq hb2)]
            exact hQ β1 a1 w1 S1 A1
          | false =>
            rw [hb2] at hd
            cases hd
            rw [if_neg (fun e => by rw [e, Nat.beq_refl] at hb2; cases hb2)]
            exact hQ β1 a1 w1 S1 A1
    | loop b => exact wpIn_loop_rounds (f + 1) (loop_ok (fuel := f) (fun g hg => @IH g (by omega)) (f + 1) (Nat.le_refl _) S hd hQ)
    | scope b =>
      refine wpIn_scope ?_
      refine hX S (show exec (cFk K P) f (cCode P m b) e n h = .ok x e' n' h' from hd) (fun β1 a1 w1 S1 A1 => ?_)
      have := hQ β1 a1 w1 S1 A1
      cases x <;> exact this
    | region id ops dr =>
      cases dr with
      | false =>
        refine wpIn_region ?_
        rw [List.range_eq_range']
        have := reg_ok hX hXb (hS _ hX hXb) (ops := ops) (Q := Q) ops.toList 0 (fun i hi => by simp) S (show runOps (callX (cFk K P) (exec (cFk K P) f)) (ops.toList.map (cOper P m ops)) e n h = .ok x e' n' h' from hd) hQ
        simpa using this
      | true =>
        by_cases hdo : drawOk (Region.before ops) ops (ops.toList.map (cOper P m ops)) = true
        · have hcc : cCode P m (.region id ops true) = .draw (cUn P m ops) (cBar P m ops) (ops.toList.map (cOper P m ops)) := if_pos hdo
          rw [hcc] at hd
          exact hD _ hX hXb S hdo hd hQ
        · have hcc : cCode P m (.region id ops true) = .bad := if_neg hdo
          rw [hcc] at hd
          cases hd
    | rangeFunc g ps c1 c2 =>
      by_cases hps : ps.toList.all (fun p => decide (p < m)) = true
      · have hcc : cCode P m (.rangeFunc g ps c1 c2) = .rng (cO m g) (ps.toList.map po) (cCode P m c1) (cCode P m c2) := if_pos hps
        rw [hcc] at hd
        refine rng_ok hX hXb S (fun p hp => ?_) hd hQ
        have := List.all_eq_true.1 hps p (Array.mem_toList_iff.2 hp)
        simpa using this
      · have hcc : cCode P m (.rangeFunc g ps c1 c2) = .bad := if_neg hps
        rw [hcc] at hd
        cases hd
    | _ => cases hd
end
end Go.Proofs.Ytdijijblccmfbaa
