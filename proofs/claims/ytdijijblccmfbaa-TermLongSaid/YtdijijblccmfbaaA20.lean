/- The statement that ranges over a function; calls as operations. No condition. -/
import Derived.Test.YtdijijblccmfbaaA19
set_option linter.unusedSimpArgs false
set_option linter.unusedVariables false
namespace Go.Proofs.Ytdijijblccmfbaa
open Go

section
variable {U : Us} {P : Program} {K : Nat → Bool} {RC : Nat → Code → DCode → Prop} {s0 : Nat} {ro : Option Nat} {m : Nat} {Fb : Nat → Prop} {β : Nat → Bk} {n : Nat} {h : Hps} {e : Tr} {a : Act} {w : World}

def RepL (w : World) (M : Nat → Prop) (β : Nat → Bk) (U : Us) (vs : Array Value) (ds : List D) : Prop := vs.size = ds.length ∧ ∀ i, i < ds.length → Rep w M β U (vs.getD i undef) (ds.getD i .junk)
theorem RepL.app {M : Nat → Prop} {U : Us} {vs ws : Array Value} {ds es : List D} (h1 : RepL w M β U vs ds) (h2 : RepL w M β U ws es) : RepL w M β U (vs ++ ws) (ds ++ es) := by
  refine ⟨by simp [h1.1, h2.1], fun i hi => ?_⟩
  by_cases hi1 : i < ds.length
  · have e1 : (vs ++ ws).getD i undef = vs.getD i undef := by simp [Array.getD_eq_getD_getElem?, Array.getElem?_append_left (show i < vs.size by rw [h1.1]; exact hi1)]
    have e2 : (ds ++ es).getD i .junk = ds.getD i .junk := by simp [List.getD_eq_getElem?_getD, List.getElem?_append_left hi1]
    rw [e1, e2]; exact h1.2 i hi1
  · have e1 : (vs ++ ws).getD i undef = ws.getD (i - ds.length) undef := by
      simp [Array.getD_eq_getD_getElem?, Array.getElem?_append_right (show vs.size ≤ i by rw [h1.1]; omega), h1.1]
    have e2 : (ds ++ es).getD i .junk = es.getD (i - ds.length) .junk := by simp [List.getD_eq_getElem?_getD, List.getElem?_append_right (Nat.le_of_not_lt hi1)]
    rw [e1, e2]; exact h2.2 _ (by rw [List.length_append] at hi; omega)
theorem RepL.one {M : Nat → Prop} {U : Us} {v : Value} {d : D} (hv : Rep w M β U v d) : RepL w M β U #[v] [d] := by
  refine ⟨rfl, fun i hi => ?_⟩
  have : i = 0 := by simp at hi; omega
  subst this
  exact hv
theorem RepL.adv {β' : Nat → Bk} {U U' : Us} {h' : Hps} {w' : World} (x : Adv β U h w β' U' h' w') {vs : Array Value} {ds : List D} (H : RepL w (Mk β Fb h) β U vs ds) : RepL w' (Mk β' Fb h') β' U' vs ds :=
  ⟨H.1, fun i hi => (H.2 i hi).adv x (Sub.refl _) _ x.num⟩

theorem enter_ok (S : St P s0 ro m Fb β n h e a w) (fn : FuncId) (ps : Array Tmp) (assign body : Code) :
    ∃ (l : Nat) (mk : List Deferred) (w1 : World) (df : Nat), (Instr.enterLoop fn a.tmps ps assign body ro).run P w = .ok (l, mk) w1 ∧ w1.os = w.os ∧ w1.tape = w.tape ∧ w1.output = w.output ∧ w.heap.size ≤ l ∧ w1.heap.size = l + 1 ∧
      w1.heap[l]? = some (.loop { state := .ready, pending := none, fn, tmps := a.tmps, params := ps, assign, body, defers := df }) ∧ (∀ b, b < w.heap.size → w1.heap[b]? = w.heap[b]?) ∧
      (mk = [] ∨ ∃ r0, mk = [mark1 r0] ∧ w.heap.size ≤ r0 ∧ r0 < l ∧ w1.heap[r0]? = some (.deferred (some []))) := by
  have hpush : ∀ (w : World) (o : Obj), (newObj o).run P w = .ok w.heap.size { w with heap := w.heap.push o } := fun w o => rfl
  cases ro with
  | none =>
    refine ⟨w.heap.size + 1, [mark1 w.heap.size], { w with heap := (w.heap.push (.deferred (some []))).push (.loop { state := .ready, pending := none, fn, tmps := a.tmps, params := ps, assign, body, defers := w.heap.size }) }, w.heap.size, ?_, rfl, rfl, rfl, by omega, by simp, ?_, fun b hb => ?_, .inr ⟨w.heap.size, rfl, Nat.le_refl _, by omega, ?_⟩⟩
    · simp [Instr.enterLoop, Sem.run_bind, hpush, mark1]
      rfl
    · rw [Array.getElem?_push, if_pos (by simp)]
    · rw [Array.getElem?_push, if_neg (by simp; omega), Array.getElem?_push, if_neg (by omega)]
    · rw [Array.getElem?_push, if_neg (by simp), Array.getElem?_push, if_pos rfl]
  | some l' =>
    obtain ⟨L, h1, h2⟩ := S.rnd l' rfl
    refine ⟨w.heap.size, [], { w with heap := w.heap.push (.loop { state := .ready, pending := none, fn, tmps := a.tmps, params := ps, assign, body, defers := L.defers }) }, L.defers, ?_, rfl, rfl, rfl, Nat.le_refl _, by simp, by simp, fun b hb => ?_, .inl rfl⟩
    · simp [Instr.enterLoop, Sem.run_bind, run_getL h1, hpush]
      try rfl
    · rw [Array.getElem?_push, if_neg (by omega)]

theorem run_callFunc {f : FuncId} {fn : Func} {c : Code} {args : Array Value} (hf : P.funcs[f]? = some fn) (hb : fn.body = some c) (hn : fn.name ≠ "runtime.NumGoroutine") : (callFunc f args).run P w = .ok (.enter f args) w := by
  have hn2 : (fn.name == "runtime.NumGoroutine") = false := by simpa using hn
  have hb2 : fn.body.isNone = false := by rw [hb]; rfl
  unfold callFunc
  rw [Sem.run_bind, run_program, Result.andThen_ok, hf]
  simp only [hn2, hb2, Bool.false_eq_true, if_false, Sem.run_pure]

theorem fn_inv {M : Nat → Prop} {U : Us} {v : Value} {g : Nat} {x c : List D} (hv : Rep w M β U v (.fn g x c)) : ∃ A C, v = .func (.func g) A C ∧ RepL w M β U A x ∧ RepL w M β U C c := by
  cases hv with
  | fn f A C first capt ha hc hra hrc => exact ⟨A, C, rfl, ⟨ha, hra⟩, ⟨hc, hrc⟩⟩

theorem rng_ok {X : RunF} (hX : CodeOk P X) (hXb : ∀ e n h, X .bad e n h = .bad) (S : St P s0 ro m Fb β n h e a w) {g : Operand} {ps : Array Tmp} {assign body : Code} (hps : ∀ p, p ∈ ps → p < m) {x : Ex} {e' : Tr} {n' : Nat} {h' : Hps} {Q : Exit → Act → World → Prop}
    (hd : rngF (cFk K P) X e n h (ps.toList.map po) (cCode P m assign) (cCode P m body) (ev e (cO m g)) = .ok x e' n' h')
    (hQ : ∀ β' a' w', St P s0 ro m Fb β' n' h' e' a' w' → Adv β (Lt n) h w β' (Lt n') h' w' → Q (exOf x) a' w') : (Code.rangeFunc g ps assign body).wpIn (FR ro) 0 P Q a w := by
  have hev := ev_ok S.env S.sz g
  revert hd hev
  generalize ev e (cO m g) = G
  intro hd hev
  cases G with
  | fn gf fa fc =>
    obtain ⟨A, C, hg, hA, hC⟩ := fn_inv hev
    replace hd : rngK e n (callFn X (n + 1) ((n, .loop n e (ps.toList.map po) (cCode P m assign) (cCode P m body) .none) :: h) (appL fa (.yld n :: fc)) (cFk K P gf)) = .ok x e' n' h' := hd
    cases hcall : callFn X (n + 1) ((n, .loop n e (ps.toList.map po) (cCode P m assign) (cCode P m body) .none) :: h) (appL fa (.yld n :: fc)) (cFk K P gf) with
    | bad => rw [hcall] at hd; cases hd
    | ok d1 n1 h1 =>
      rw [hcall] at hd
      replace hd : afterRng e n n1 h1 (getO h1 n) = .ok x e' n' h' := hd
      refine wpIn_rangeFunc (fun fn _ => ?_)
      obtain ⟨l, mk, w1, df, r1, r2, r3, r4, r5, r6, r7, r8, r9⟩ := enter_ok S fn ps assign body
      have hnew : ∀ q, getO ((n, Ob.loop n e (ps.toList.map po) (cCode P m assign) (cCode P m body) .none) :: h) q ≠ .none → q ≠ n → getO h q ≠ .none ∧ upd β n ⟨l, 0, 0⟩ q = β q := by
        intro q hq hne
        rw [getO_cons, if_neg (fun e => hne e.symm)] at hq
        exact ⟨hq, upd_ne _ _ hne⟩
      have A1 : Adv β (Lt n) h w (upd β n ⟨l, 0, 0⟩) (Lt (n + 1)) ((n, .loop n e (ps.toList.map po) (cCode P m assign) (cCode P m body) .none) :: h) w1 := by
        refine ⟨r2, r3, r4, by omega, Sub.lt (Nat.le_succ _), fun q hq => upd_ne _ _ (Nat.ne_of_lt hq), fun b hb _ => r8 b hb, fun b hb ht => ?_⟩
        obtain ⟨q, hq, e1⟩ := ht
        by_cases e2 : q = n
        · subst e2; rw [upd_same] at e1; simp at e1; omega
        · obtain ⟨h1, h2⟩ := hnew q hq e2
          rw [h2] at e1
          exact ⟨q, h1, e1⟩
      have hsym : ∀ q, q ≠ n → n ≠ q := fun q h e => h e.symm
      have I1 : Inv (RCc P) (upd β n ⟨l, 0, 0⟩) (Lt (n + 1)) Fb ((n, .loop n e (ps.toList.map po) (cCode P m assign) (cCode P m body) .none) :: h) w1 := by
        refine S.inv.step (RCc P) A1 (fun q hq => ?_) (fun q q' hq hq' e1 => ?_) (fun b hb ht => ?_)
        · by_cases e2 : q = n
          · subst e2
            refine .inr ⟨Nat.lt_succ_self _, by rw [upd_same, r6]; exact Nat.lt_succ_self _, ?_⟩
            rw [upd_same, getO_cons, if_pos rfl]
            exact ⟨_, r7, rfl, rfl, ⟨S.env.1, fun t ht => (S.env.2 t ht).adv A1 (Sub.refl _) _ (fun r hr => ⟨Nat.lt_succ_of_lt hr, hr⟩)⟩, rfl, fun p hp => Nat.lt_of_lt_of_le (hps p hp) S.sz, m, S.sz, rfl, rfl⟩
          · have := hnew q hq e2
            exact .inl ⟨by rw [getO_cons, if_neg (hsym q e2)], r8 _ (S.inv.lt q this.1)⟩
        · by_cases e2 : q = n
          · by_cases e3 : q' = n
            · rw [e2, e3]
            · have := hnew q' hq' e3
              rw [e2, upd_same, this.2] at e1
              have h2 := S.inv.lt q' this.1
              simp only at e1
              omega
          · have h3 := hnew q hq e2
            have h4 := S.inv.lt q h3.1
            by_cases e3 : q' = n
            · rw [e3, upd_same, h3.2] at e1
              simp only at e1
              omega
            · have h5 := hnew q' hq' e3
              rw [h3.2, h5.2] at e1
              exact S.inv.inj q q' h3.1 h5.1 e1
        · obtain ⟨q, hq, e1⟩ := ht
          have hlt := (S.inv.frm b hb).1
          by_cases e2 : q = n
          · subst e2; rw [upd_same] at e1; simp at e1; omega
          · obtain ⟨h1, h2⟩ := hnew q hq e2
            rw [h2] at e1
            exact (S.inv.frm b hb).2 ⟨q, h1, e1⟩
      have hy : Rep w1 (Mk (upd β n ⟨l, 0, 0⟩) Fb ((n, .loop n e (ps.toList.map po) (cCode P m assign) (cCode P m body) .none) :: h)) (upd β n ⟨l, 0, 0⟩) (Lt (n + 1)) (.func (.yield l) #[] #[]) (.yld n) := by
        have := Rep.yld (w := w1) (M := Mk (upd β n ⟨l, 0, 0⟩) Fb ((n, .loop n e (ps.toList.map po) (cCode P m assign) (cCode P m body) .none) :: h)) (β := upd β n ⟨l, 0, 0⟩) (N := Lt (n + 1)) (r := n) (Nat.lt_succ_self n)
        rw [upd_same] at this
        exact this
      have hargs : RepL w1 (Mk (upd β n ⟨l, 0, 0⟩) Fb ((n, .loop n e (ps.toList.map po) (cCode P m assign) (cCode P m body) .none) :: h)) (upd β n ⟨l, 0, 0⟩) (Lt (n + 1)) (A ++ #[.func (.yield l) #[] #[]] ++ C) (appL fa (.yld n :: fc)) := by
        rw [appL_eq, show fa ++ (.yld n :: fc) = fa ++ [.yld n] ++ fc by simp]
        exact ((hA.adv A1).app (RepL.one hy)).app (hC.adv A1)
      obtain ⟨fn', c, f1, f2, f3, f4⟩ := callFn_ok hX hXb I1 hargs.1 hargs.2 hcall
      refine ⟨l, mk, w1, { target := .fn (.func gf) C, args := A ++ #[.func (.yield l) #[] #[]] }, w1, gf, A ++ #[.func (.yield l) #[] #[]] ++ C, w1, r1, ?_, fun _ _ => trivial, ?_, FR_depth ro, ?_⟩
      · show (Deferred.ofValue (a.eval g) _).run P w1 = _
        rw [hg, show (rangeCall g l).args.map a.eval = #[.func (.yield l) #[] #[]] by simp [rangeCall, Act.eval]]
        rfl
      · exact run_callFunc f1 f2 f3
      · refine CallsIn.mono (f4 ro) (fun en w3 hpost => ?_)
        obtain ⟨v, β3, rfl, _, I3, A3⟩ := hpost
        have hβ3 : (β3 n).b = l := by rw [A3.same n (Nat.lt_succ_self n), upd_same]
        cases hgo : getO h1 n with
        | loop kk env qs ca cb j =>
          rw [hgo] at hd
          have ho := I3.obj n
          rw [hgo] at ho
          obtain ⟨L, k1, k2, k3, _⟩ := ho
          rw [hβ3] at k1
          have hnb : L.state ≠ .busy := by rw [k2]; cases isSkip j <;> simp
          have hp3 : getO h1 n ≠ .none := by rw [hgo]; exact fun h => by cases h
          have I4 : Inv (RCc P) β3 (Lt n1) Fb (delO h1 n) { w3 with heap := w3.heap.setIfInBounds l (.loop { L with state := .exhausted }) } := by
            refine (I3.del n).gen (by simp) (fun b c T fr hb _ => set_ne (fun e => by rw [e, k1] at hb; cases hb)) (fun q hq => set_ne (fun e1 => ?_))
            obtain ⟨g1, g2⟩ := getO_del_none hq
            exact g1 (I3.inj q n (g2 ▸ hq) hp3 (e1.trans hβ3.symm))
          have A4 : Adv β (Lt n) h w β3 (Lt n1) (delO h1 n) { w3 with heap := w3.heap.setIfInBounds l (.loop { L with state := .exhausted }) } := by
            have A13 := A1.trans A3
            refine ⟨A13.os, A13.tape, A13.output, by simpa using A13.size, A13.num, A13.same, fun b hb hnt => ?_, fun b hb ht => A13.shr b hb (Tk_del ht)⟩
            show (w3.heap.setIfInBounds _ _)[b]? = _
            rw [set_ne (by omega)]
            exact A13.keep b hb hnt
          have hdef : DefOk s0 { w3 with heap := w3.heap.setIfInBounds l (.loop { L with state := .exhausted }) } β3 (delO h1 n) (mk ++ a.defers) := by
            obtain ⟨rs, d1, d2, d3⟩ := S.dfr.adv A4
            rcases r9 with rfl | ⟨r0, rfl, q1, q2, q3⟩
            · exact ⟨rs, d1, d2, d3⟩
            · have hnt1 : ¬ Tk (upd β n ⟨l, 0, 0⟩) ((n, .loop n e (ps.toList.map po) (cCode P m assign) (cCode P m body) .none) :: h) r0 := by
                rintro ⟨q, hq, e1⟩
                by_cases e2 : q = n
                · subst e2; rw [upd_same] at e1; simp at e1; omega
                · obtain ⟨h1, h2⟩ := hnew q hq e2
                  rw [h2] at e1
                  have := S.inv.lt q h1
                  omega
              have hlt1 := lt_of_some q3
              obtain ⟨rs0, d4, d5, d6⟩ := S.dfr
              refine ⟨r0 :: rs0, by rw [d4]; rfl, List.nodup_cons.2 ⟨fun hin => ?_, d5⟩, fun q hq => ?_⟩
              · have := lt_of_some (d6 r0 hin).2.1
                omega
              · rcases List.mem_cons.1 hq with rfl | hq
                · refine ⟨Nat.le_trans S.s0 q1, ?_, fun ht => hnt1 (A3.shr q hlt1 (Tk_del ht))⟩
                  show (w3.heap.setIfInBounds _ _)[q]? = _
                  rw [set_ne (by omega)]
                  exact (A3.keep q hlt1 hnt1).trans q3
                · have hrs : rs = rs0 := by
                    rw [d4] at d1
                    have := congrArg (List.map fun d : Deferred => match d.target with | .collected r => r | _ => 0) d1
                    simpa [mark1, Function.comp_def] using this.symm
                  exact d3 q (hrs ▸ hq)
          have S4 : St P s0 ro m Fb β3 n1 (delO h1 n) e { a with defers := mk ++ a.defers } { w3 with heap := w3.heap.setIfInBounds l (.loop { L with state := .exhausted }) } :=
            ⟨I4, S.env.adv A4, S.sz, hdef, S.rnd.adv A4, Nat.le_trans S.s0 A4.size⟩
          refine ⟨_, _, run_endLoop k1 hnb, ?_⟩
          clear hdef I4
          revert S4 A4
          generalize ({ w3 with heap := w3.heap.setIfInBounds l (.loop { L with state := .exhausted }) } : World) = w4
          intro A4 S4
          rw [k3]
          replace hd : afterJp e n1 (delO h1 n) j = .ok x e' n' h' := hd
          cases j with
          | none => cases hd; exact hQ _ _ _ S4 A4
          | exit i => cases hd; exact wpIn_exit (hQ _ _ _ S4 A4)
          | ret => cases hd; exact wpIn_ret (hQ _ _ _ S4 A4)
        | _ => rw [hgo] at hd; cases hd
  | _ => cases hd
end
end Go.Proofs.Ytdijijblccmfbaa
