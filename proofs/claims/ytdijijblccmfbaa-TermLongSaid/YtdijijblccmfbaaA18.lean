/- Calls: a function's contract out of its body's run. No condition. -/
import Derived.Test.YtdijijblccmfbaaA17
set_option linter.unusedSimpArgs false
set_option linter.unusedVariables false
namespace Go.Proofs.Ytdijijblccmfbaa
open Go

section
variable {U : Us} {P : Program} {K : Nat → Bool} {RC : Nat → Code → DCode → Prop} {s0 : Nat} {ro : Option Nat} {m : Nat} {Fb : Nat → Prop} {β : Nat → Bk} {n : Nat} {h : Hps} {e : Tr} {a : Act} {w : World}

/-! ### what is handed back -/
theorem loadD_any {ag : Bool} {k N N' : Nat} {x d : D} {n' : Nat} {h h' : Hps} (hd : loadD ag k N h x = .ok d n' h') : loadD ag k N' h x = .ok d N' h := by
  have hok : ∀ y, okD N h y = .ok d n' h' → okD N' h y = .ok d N' h := by
    intro y e
    obtain ⟨rfl, _, _, h2⟩ := okD_inv e
    cases y <;> first | rfl | exact absurd rfl h2
  cases x with
  | ptr r i j =>
    have h1 : loadR ag k i j N h (getO h r) = .ok d n' h' := hd
    show loadR ag k i j N' h (getO h r) = _
    cases hg : getO h r with
    | row kk es => rw [hg] at h1; exact hok _ h1
    | _ => rw [hg] at h1; cases h1
  | ip y j => exact hok _ hd
  | _ => cases hd

def resF (tmps : Array Value) : ResultVar → Sem Value
  | .tmp t => pure (tmps.getD t undef)
  | .cell a t => do loadVar t (← asAddr (tmps.getD a undef))
theorem results_eq (fn : Func) (tmps : Array Value) : results fn tmps = (do let vs ← fn.results.mapM (resF tmps); pure (if h : vs.size = 1 then vs[0] else .tuple vs)) := rfl
theorem res1_ok (I : Inv RC β U Fb h w) {tmps : Array Value} (E : EnvOk w (Mk β Fb h) β U tmps e) (hm : m ≤ tmps.size) {r : ResultVar} {rv : RV} (hc : cRes P m r = some rv) {d : D} {n' : Nat} {h' : Hps} (hd : res1 h e rv = .ok d n' h') :
    ∃ v, (resF tmps r).run P w = .ok v w ∧ Rep w (Mk β Fb h) β U v d := by
  cases r with
  | tmp t =>
    unfold cRes at hc
    simp only at hc
    split at hc
    · rename_i ht
      cases hc
      cases hd
      exact ⟨_, rfl, E.2 t (Nat.lt_of_lt_of_le ht hm)⟩
    · cases hc
  | cell c T =>
    unfold cRes at hc
    simp only at hc
    split at hc
    · rename_i ht
      split at hc
      · rename_i i dd hi hu
        cases hc
        obtain ⟨b, v, h1, h2, h3, _⟩ := loadD_ok (P := P) I hi hu (E.2 c (Nat.lt_of_lt_of_le ht hm)) (loadD_any (N' := 0) (show loadD (aggD dd) i.size 0 h (get (po c) e) = .ok d n' h' from hd))
        refine ⟨v, ?_, h3⟩
        simp only [resF, h1, Sem.run_bind, asAddr, Sem.run_pure, Result.andThen_ok, h2]
      · cases hc
    · cases hc

theorem results_ok (I : Inv RC β U Fb h w) {tmps : Array Value} (E : EnvOk w (Mk β Fb h) β U tmps e) (hm : m ≤ tmps.size) : ∀ (rs : List ResultVar) (l : List RV) (ds : List D), cRess P m rs = some l → resL h e l = .ok ds →
    ∃ vs : List Value, (rs.mapM (resF tmps)).run P w = .ok vs w ∧ vs.length = ds.length ∧ ∀ i, i < ds.length → Rep w (Mk β Fb h) β U (vs.getD i undef) (ds.getD i .junk) := by
  intro rs
  induction rs with
  | nil =>
    intro l ds hc hd
    cases hc
    cases hd
    exact ⟨[], rfl, rfl, fun i hi => absurd hi (Nat.not_lt_zero _)⟩
  | cons r rs ih =>
    intro l ds hc hd
    unfold cRess at hc
    split at hc
    · rename_i rv l2 h1 h2
      cases hc
      have hd2 : resC (res1 h e rv) (resL h e l2) = .ok ds := hd
      cases h3 : res1 h e rv with
      | bad => rw [h3] at hd2; cases hd2
      | ok d0 n1 h1' =>
        cases h4 : resL h e l2 with
        | bad => rw [h3, h4] at hd2; cases hd2
        | ok ds2 =>
          rw [h3, h4] at hd2
          cases hd2
          obtain ⟨v, g1, g2⟩ := res1_ok I E hm h1 h3
          obtain ⟨vs, g3, g4, g5⟩ := ih l2 ds2 h2 h4
          refine ⟨v :: vs, ?_, by simpa using g4, fun i hi => ?_⟩
          · rw [List.mapM_cons, Sem.run_bind]
            simp only [g1, Result.andThen_ok, Sem.run_bind, g3, Sem.run_pure]
          · cases i with
            | zero => exact g2
            | succ i => simpa using g5 i (by simpa using hi)
    · cases hc

theorem results_run (I : Inv RC β U Fb h w) {tmps : Array Value} (E : EnvOk w (Mk β Fb h) β U tmps e) (hm : m ≤ tmps.size) {fn : Func} {l : List RV} {ds : List D} (hc : cRess P m fn.results.toList = some l) (hd : resL h e l = .ok ds) :
    ∃ v, (results fn tmps).run P w = .ok v w ∧ Rep w (Mk β Fb h) β U v (tupD ds) := by
  obtain ⟨vs, h1, h2, h3⟩ := results_ok I E hm fn.results.toList l ds hc hd
  have hrun : (fn.results.mapM (resF tmps)).run P w = .ok vs.toArray w := by
    rw [Array.mapM_eq_mapM_toList, Sem.run_map, h1]
    rfl
  have htup : vs.length ≠ 1 → Rep w (Mk β Fb h) β U (.tuple vs.toArray) (tupD ds) := by
    intro hne
    match ds, vs, h2, h3 with
    | [], [], _, _ => exact .tup #[] [] rfl (fun i hi => absurd hi (Nat.not_lt_zero _))
    | [d], [v], _, _ => exact (hne rfl).elim
    | d1 :: d2 :: dt, v1 :: v2 :: vt, h2, h3 =>
      refine .tup _ _ (by simpa using h2) (fun i hi => ?_)
      rw [getD_toArray]
      exact h3 i hi
  rw [results_eq, Sem.run_bind]
  simp only [hrun, Result.andThen_ok, Sem.run_pure]
  by_cases h1 : vs.length = 1
  · obtain ⟨v, rfl⟩ := List.length_eq_one_iff.1 h1
    obtain ⟨d, rfl⟩ := List.length_eq_one_iff.1 (h2.symm.trans h1)
    exact ⟨v, rfl, h3 0 (by simp)⟩
  · refine ⟨.tuple vs.toArray, ?_, htup h1⟩
    rw [dif_neg (by simpa using h1)]

/-! ### a world in which blocks of deferred calls are taken -/
theorem ObOk.side {U : Us} {w' : World} (hs : w'.heap.size = w.heap.size) (ho : ∀ b : Nat, (∀ d, w.heap[b]? ≠ some (Obj.deferred d)) → w'.heap[b]? = w.heap[b]?) {M : Nat → Prop} {o : Ob} {B : Bk} (H : ObOk RC w M β U o B) : ObOk RC w' M β U o B := by
  have hR : ∀ {V : Us} {v d}, Rep w M β V v d → Rep w' M β V v d := fun hr => hr.monoC (Nat.le_of_eq hs.symm) (fun b c T fr e _ => ho b (fun d e2 => by rw [e] at e2; cases e2)) (fun _ _ hm => hm) _ (Sub.refl _) (fun _ _ => rfl)
  cases o with
  | none => trivial
  | row k es =>
    obtain ⟨h1, h2, h3, c, T, h4, h5, h6⟩ := H
    exact ⟨h1, h2, h3, c, T, (ho _ (fun d e2 => by rw [h4] at e2; cases e2)).trans h4, h5, fun i hi j hj => ⟨(h6 i hi j hj).1, hR (h6 i hi j hj).2⟩⟩
  | map es =>
    obtain ⟨ents, clock, h1, h2, h3⟩ := H
    exact ⟨ents, clock, (ho _ (fun d e2 => by rw [h1] at e2; cases e2)).trans h1, h2, fun i hi => ⟨hR (h3 i hi).1, hR (h3 i hi).2⟩⟩
  | loop k env ps a b j =>
    obtain ⟨L, h1, h2, h3, h4, h5⟩ := H
    exact ⟨L, (ho _ (fun d e2 => by rw [h1] at e2; cases e2)).trans h1, h2, h3, ⟨h4.1, fun t ht => hR (h4.2 t ht)⟩, h5⟩
theorem Inv.side {w' : World} (hs : w'.heap.size = w.heap.size) (ho : ∀ b : Nat, (∀ d, w.heap[b]? ≠ some (Obj.deferred d)) → w'.heap[b]? = w.heap[b]?) (I : Inv RC β U Fb h w) : Inv RC β U Fb h w' :=
  ⟨I.key, fun r hr => by rw [hs]; exact I.lt r hr, fun r => ObOk.side hs ho (I.obj r), I.inj, fun b hb => ⟨by rw [hs]; exact (I.frm b hb).1, (I.frm b hb).2⟩⟩

theorem leaves_ok {fn : Func} {tmps : Array Value} {R : Ending → World → Prop} : ∀ (rs : List Nat) (w : World), rs.Nodup → (∀ r, r ∈ rs → w.heap[r]? = some (.deferred (some []))) →
    (∀ w', w'.os = w.os → w'.tape = w.tape → w'.output = w.output → w'.heap.size = w.heap.size → (∀ b, b ∉ rs → w'.heap[b]? = w.heap[b]?) → ∃ v, (results fn tmps).run P w' = .ok v w' ∧ R (.returned v) w') →
    LeavesInM (FR none) 0 P fn tmps R (rs.map mark1) .returning w := by
  intro rs
  induction rs with
  | nil => intro w _ _ H; exact H w rfl rfl rfl rfl (fun _ _ => rfl)
  | cons r rs ih =>
    intro w hn hr H
    have h1 := hr r (by simp)
    have hn2 := List.nodup_cons.1 hn
    refine ⟨(fun h => by cases h), .inl ⟨r, { w with heap := w.heap.setIfInBounds r (.deferred none) }, rfl, ?_, ?_⟩⟩
    · simp [Instr.takeDeferred, getObj, setObj, Sem.run, h1]
    · refine ih _ hn2.2 (fun q hq => ?_) (fun w' e1 e2 e3 e4 e5 => ?_)
      · have : r ≠ q := fun e => hn2.1 (e ▸ hq)
        show (w.heap.setIfInBounds r _)[q]? = _
        rw [Array.getElem?_setIfInBounds_ne this]
        exact hr q (by simp [hq])
      · refine H w' e1 e2 e3 (by rw [e4]; simp) (fun b hb => ?_)
        rw [e5 b (fun h => hb (by simp [h]))]
        show (w.heap.setIfInBounds r _)[b]? = _
        rw [Array.getElem?_setIfInBounds_ne (fun e => hb (by simp [e]))]

/-! ### calls -/
def CallPost (P : Program) (Fb : Nat → Prop) (β : Nat → Bk) (n : Nat) (h : Hps) (w : World) (d : D) (n' : Nat) (h' : Hps) : Ending → World → Prop := fun en w' =>
  ∃ v β', en = .returned v ∧ Rep w' (Mk β' Fb h') β' (Lt n') v d ∧ Inv (RCc P) β' (Lt n') Fb h' w' ∧ Adv β (Lt n) h w β' (Lt n') h' w'

theorem callFn_ok {X : RunF} (hX : CodeOk P X) (hXb : ∀ e n h, X .bad e n h = .bad) {f : FuncId} {vs : Array Value} {ds : List D} {d : D} {n' : Nat} {h' : Hps} (I : Inv (RCc P) β (Lt n) Fb h w) (hl : vs.size = ds.length)
    (hr : ∀ i, i < ds.length → Rep w (Mk β Fb h) β (Lt n) (vs.getD i undef) (ds.getD i .junk)) (hd : callFn X n h ds (cFk K P f) = .ok d n' h') :
    ∃ fn c, P.funcs[f]? = some fn ∧ fn.body = some c ∧ fn.name ≠ "runtime.NumGoroutine" ∧ ∀ ro, CallsIn (FR ro) 0 P f vs w (CallPost P Fb β n h w d n' h') := by
  obtain ⟨hlen, hd⟩ := ifR_inv (show ifR (Nat.beq (lenL ds) (lenP (cFk K P f).ps)) (fin (cFk K P f).keep n (cFk K P f).res (X (cFk K P f).body (argsT ds (cFk K P f).ps) n h)) = .ok d n' h' from hd)
  have hlen := beq_eq hlen
  rw [lenL_eq, lenP_eq] at hlen
  cases hx : X (cFk K P f).body (argsT ds (cFk K P f).ps) n h with
  | bad =>
    rw [hx] at hd
    revert hd
    cases (cFk K P f).keep <;> intro hd <;> cases hd
  | ok x e1 n1 h1 =>
    rw [hx] at hd
    have hbad : cFk K P f ≠ noFn := by
      intro e2
      rw [e2] at hx
      rw [show (noFn).body = DCode.bad from rfl, hXb] at hx
      cases hx
    cases hf : P.funcs[f]? with
    | none => exact absurd (show cFk K P f = noFn by simp [cFk, hf]) hbad
    | some fn =>
      have hcf : cFk K P f = cFunc (K f) P fn := by simp [cFk, hf]
      rw [hcf] at hx hd hbad hlen
      cases hb : fn.body with
      | none => exact absurd (by unfold cFunc; simp only [hb]) hbad
      | some b =>
      cases hres : cRess P fn.ntmps fn.results.toList with
      | none => exact absurd (by unfold cFunc; simp only [hb, hres]) hbad
      | some l =>
        by_cases hc : fn.ntmps < 2 ^ 20 ∧ fn.name ≠ "runtime.NumGoroutine" ∧ fn.params.size + fn.nfree ≤ fn.ntmps
        · have hcf2 : cFunc (K f) P fn = ⟨cCode P fn.ntmps b, (List.range (fn.params.size + fn.nfree)).map po, l, K f⟩ := by unfold cFunc; simp only [hb, hres]; exact if_pos hc
          rw [hcf2] at hx hd hlen
          obtain ⟨hc1, hc2, hc3⟩ := hc
          refine ⟨fn, b, rfl, hb, hc2, fun ro => ?_⟩
          have hlen2 : ds.length = fn.params.size + fn.nfree := by simpa using hlen
          show CallsIn (FR none) 0 P f vs w _
          refine callsIn_of_wp_marks hf hb trivial ?_
          refine hX (s0 := w.heap.size) (ro := none) (m := fn.ntmps) ⟨I, args_env hl hr hlen2 hc3 hc1, by simp; omega, ⟨[], rfl, List.nodup_nil, (fun r hr => by cases hr)⟩, (fun l hl => by cases hl), Nat.le_refl _⟩ hx (fun β' a' w' S A => ?_)
          have key : ∀ {ds2}, resL h1 e1 l = .ok ds2 → finishD n n1 h1 (tupD ds2) = .ok d n' h' ∨ Rd.ok (tupD ds2) n1 h1 = .ok d n' h' → LeavesInM (FR none) 0 P fn a'.tmps (CallPost P Fb β n h w d n' h') a'.defers .returning w' := by
            intro ds2 hds hfin
            obtain ⟨rs, g1, g2, g3⟩ := S.dfr
            rw [g1]
            refine leaves_ok rs w' g2 (fun r hr => (g3 r hr).2.1) (fun w2 e1 e2 e3 e4 e5 => ?_)
            have hside : ∀ b : Nat, (∀ d, w'.heap[b]? ≠ some (Obj.deferred d)) → w2.heap[b]? = w'.heap[b]? := fun b hb => e5 b (fun hin => hb _ (g3 b hin).2.1)
            have I2 := Inv.side e4 hside S.inv
            have E2 : EnvOk w2 (Mk β' Fb h1) β' (Lt n1) a'.tmps _ := ⟨S.env.1, fun t ht => (S.env.2 t ht).monoC (Nat.le_of_eq e4.symm) (fun b c T fr e _ => hside b (fun d e2 => by rw [e] at e2; cases e2)) (fun _ _ hm => hm) _ (Sub.refl _) (fun _ _ => rfl)⟩
            obtain ⟨v, g4, g5⟩ := results_run I2 E2 S.sz hres hds
            have hnn : n ≤ n1 := by
              rcases Nat.lt_or_ge n1 n with h | h
              · exact absurd (A.num n1 h) (Nat.lt_irrefl _)
              · exact h
            obtain ⟨g9, g6, g7, g8⟩ := finish_keep I2 hnn g5 hfin
            refine ⟨v, g4, v, β', rfl, g6, g7, ⟨e1.trans A.os, e2.trans A.tape, e3.trans A.output, e4 ▸ A.size, Sub.lt g9, A.same, fun b hb hn => ?_, fun b hb ht => A.shr b hb (g8 b ht)⟩⟩
            rw [e5 b (fun hin => by have := (g3 b hin).1; omega)]
            exact A.keep b hb hn
          cases hk : K f with
          | false =>
            rw [hk] at hd
            have hd : finishE n l e1 n1 h1 x = .ok d n' h' := hd
            cases x with
            | exit i => cases hd
            | normal =>
              have hd2 : finishL n n1 h1 (resL h1 e1 l) = .ok d n' h' := hd
              cases hds : resL h1 e1 l with
              | bad => rw [hds] at hd2; cases hd2
              | ok ds2 => rw [hds] at hd2; exact key hds (.inl hd2)
            | ret =>
              have hd2 : finishL n n1 h1 (resL h1 e1 l) = .ok d n' h' := hd
              cases hds : resL h1 e1 l with
              | bad => rw [hds] at hd2; cases hd2
              | ok ds2 => rw [hds] at hd2; exact key hds (.inl hd2)
          | true =>
            rw [hk] at hd
            have hd : finKE l e1 n1 h1 x = .ok d n' h' := hd
            cases x with
            | exit i => cases hd
            | normal =>
              have hd2 : finKL n1 h1 (resL h1 e1 l) = .ok d n' h' := hd
              cases hds : resL h1 e1 l with
              | bad => rw [hds] at hd2; cases hd2
              | ok ds2 => rw [hds] at hd2; exact key hds (.inr hd2)
            | ret =>
              have hd2 : finKL n1 h1 (resL h1 e1 l) = .ok d n' h' := hd
              cases hds : resL h1 e1 l with
              | bad => rw [hds] at hd2; cases hd2
              | ok ds2 => rw [hds] at hd2; exact key hds (.inr hd2)
        · exact absurd (by unfold cFunc; simp only [hb, hres]; exact if_neg hc) hbad
end
end Go.Proofs.Ytdijijblccmfbaa
