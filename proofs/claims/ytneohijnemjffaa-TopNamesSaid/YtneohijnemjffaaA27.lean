/- A region that leaves its order open: whatever order the machine takes, it comes to what the text's order comes to. No condition but that the program's orders are mixed. -/
import Derived.Test.YtneohijnemjffaaA26
set_option linter.unusedSimpArgs false
set_option linter.unusedVariables false
namespace Go.Proofs.Ytneohijnemjffaa
open Go

def US (n0 : Nat) (S : Nat → Prop) : Us := fun r => r < n0 ∨ ∃ i, S i ∧ r = n0 + i
theorem US_plus (n0 : Nat) (S : Nat → Prop) (j : Nat) : Ad (US n0 S) (n0 + j) = US n0 (Plus S j) := by
  funext r
  apply propext
  constructor
  · rintro ((h | ⟨i, h1, h2⟩) | h)
    · exact .inl h
    · exact .inr ⟨i, .inl h1, h2⟩
    · exact .inr ⟨j, .inr rfl, h⟩
  · rintro (h | ⟨i, h1 | h1, h2⟩)
    · exact .inl (.inl h)
    · exact .inl (.inr ⟨i, h1, h2⟩)
    · exact .inr (h1 ▸ h2)

def cnt : List Bool → Nat
  | [] => 0
  | true :: t => cnt t
  | false :: t => cnt t + 1
theorem cnt_set : ∀ {l : List Bool} {i : Nat}, l[i]? = some false → cnt (l.set i true) + 1 = cnt l
  | [], _, h => by simp at h
  | b :: t, 0, h => by
    have : b = false := by simpa using h
    subst this
    rfl
  | b :: t, i + 1, h => by
    have h2 : t[i]? = some false := by simpa using h
    have := cnt_set h2
    cases b with
    | true => exact this
    | false => show cnt (t.set i true) + 1 + 1 = cnt t + 1; omega
theorem cnt_zero : ∀ {l : List Bool}, cnt l = 0 → ∀ i, i < l.length → l[i]? = some true
  | [], _, i, hi => by simp at hi
  | true :: t, h, i, hi => by
    cases i with
    | zero => rfl
    | succ i => simpa using cnt_zero (l := t) h i (by simpa using hi)
  | false :: t, h, i, hi => by cases h

section
variable {P : Program} {s0 : Nat} {ro : Option Nat} {m : Nat} {Fb : Nat → Prop} {ops : Array Oper} {n0 : Nat} {h0 : Hps} {e0 : Tr} {w0 : World} {β0 : Nat → Bk} {X : RunF}

structure StD (P : Program) (s0 : Nat) (ro : Option Nat) (m : Nat) (Fb : Nat → Prop) (β0 : Nat → Bk) (n0 : Nat) (h0 : Hps) (w0 : World) (S : Nat → Prop) (β : Nat → Bk) (E : Tr) (H : Hps) (a : Act) (w : World) : Prop where
  inv : Inv (RCc P) β (US n0 S) Fb H w
  env : EnvOk w (Mk β Fb H) β (US n0 S) a.tmps E
  sz : m ≤ a.tmps.size
  adv : Adv β0 (Lt n0) h0 w0 β (US n0 S) H w
  dfr : DefOk s0 w β H a.defers
  rnd : RoOk w β H ro
  s0 : s0 ≤ w.heap.size

variable {S : Nat → Prop} {β : Nat → Bk} {E : Tr} {H : Hps} {a : Act} {w : World}

theorem StD.next (Z : StD P s0 ro m Fb β0 n0 h0 w0 S β E H a w) {j : Nat} {β' : Nat → Bk} {H' : Hps} {w' : World} {v : Value} {d : D} {dst : Option Nat} {dp : Option Po} (hdp : cDst m dst = some dp)
    (hv : Rep w' (Mk β' Fb H') β' (Ad (US n0 S) (n0 + j)) v d) (I : Inv (RCc P) β' (Ad (US n0 S) (n0 + j)) Fb H' w') (A : Adv β (US n0 S) H w β' (Ad (US n0 S) (n0 + j)) H' w') :
    StD P s0 ro m Fb β0 n0 h0 w0 (Plus S j) β' (putE E dp d) H' (a.put dst v) w' := by
  have hm : m < 2 ^ 20 := Nat.lt_of_le_of_lt Z.sz Z.env.1
  have E1 := (Z.env.adv A).dst hm hv hdp
  rw [US_plus] at E1 I A
  refine ⟨I, E1, ?_, Z.adv.trans A, ?_, Z.rnd.adv A, Nat.le_trans Z.s0 A.size⟩
  · cases dst with
    | none => exact Z.sz
    | some t => show m ≤ (a.tmps.setIfInBounds t v).size; simpa using Z.sz
  · cases dst with
    | none => exact Z.dfr.adv A
    | some t => exact Z.dfr.adv A

theorem allL_clo {f : Nat} {l : List D} (h : allL (clo f) l = true) {M : Nat → Prop} {U : Us} {vs : Array Value} (H : RepL w M β U vs l) : RepL w M β No vs l := by
  rw [allL_eq, List.all_eq_true] at h
  refine ⟨H.1, fun i hi => Rep.clo f (H.2 i hi) (h _ ?_)⟩
  rw [List.getD_eq_getElem?_getD, List.getElem?_eq_getElem hi]
  exact List.getElem_mem _

/-- a call whose arguments hold no reference -/
theorem pure_ok (hX : CodeOk P X) (hXb : ∀ e n h, X .bad e n h = .bad) {U : Us} (I : Inv (RCc P) β U Fb H w) (E1 : EnvOk w (Mk β Fb H) β U a.tmps E) (hm : m ≤ a.tmps.size) {o : Oper} {c : Call} {f : Operand} (ho : o.op = .call c) (hc : c.callee = .value f) {n n' : Nat} {d : D} {H' : Hps}
    (hd : pureC n H (ev E (cO m f)) (evs E (cOs m c.args)) (callX (cF P) X 0 [] (ev E (cO m f)) (evs E (cOs m c.args))) = .ok d n' H') {next : Act → World → Prop} {Q : Exit → Act → World → Prop}
    (hnext : ∀ v w', Rep w' (Mk β Fb H) β No v d → Inv (RCc P) β U Fb H w' → Adv β U H w β U H w' → next (a.put o.dst v) w') : H' = H ∧ o.wpIn (FR ro) 0 P a w next Q := by
  cases hcl : callX (cF P) X 0 [] (ev E (cO m f)) (evs E (cOs m c.args)) with
  | bad => rw [hcl] at hd; cases hd
  | ok d2 n2 h2 =>
    rw [hcl] at hd
    obtain ⟨h3, h4⟩ := ifR_inv (show ifR (Bool.and (clo 20 (ev E (cO m f))) (Bool.and (allL (clo 20) (evs E (cOs m c.args))) (clo 20 d2))) (.ok d2 n H) = .ok d n' H' from hd)
    cases h4
    obtain ⟨c1, c2, c3⟩ := and3 h3
    refine ⟨rfl, fun _ _ => trivial, ?_⟩
    rw [Oper.semAt_eq _ _ _ (fun c h => by rw [ho] at h; cases h)]
    have hex : execOp a.eval o = (do let d ← resolve a.eval c o.type; invoke d.target d.args : Sem Next) := by unfold execOp; rw [ho]
    rw [hex]
    have hev := Rep.clo 20 (ev_ok E1 hm f) c1
    have hvs := allL_clo c2 (show RepL w (Mk β Fb H) β U (c.args.map a.eval) (evs E (cOs m c.args)) from evs_ok E1 hm c.args)
    revert hcl hev c1
    generalize ev E (cO m f) = G
    intro hcl c1 hev
    cases G with
    | fn g x y =>
      obtain ⟨A, C, hg, hA, hC⟩ := fn_inv hev
      rw [resolve_val hc hg]
      have hargs : RepL w (Mk β Fb H) β No (A ++ c.args.map a.eval ++ C) (appL x (appL (evs E (cOs m c.args)) y)) := by
        rw [appL_eq, appL_eq, ← List.append_assoc]
        exact (hA.app hvs).app hC
      have I0 : Inv (RCc P) β (Lt 0) (Mk β Fb H) [] w := by
        refine ⟨fun r hr => absurd rfl hr, fun r hr => absurd rfl hr, fun r => trivial, fun r q hr => absurd rfl hr, fun b hb => ⟨?_, fun ⟨q, hq, _⟩ => hq rfl⟩⟩
        rcases hb with hb | ⟨q, hq, rfl⟩
        · exact (I.frm b hb).1
        · exact I.lt q hq
      have hMk : ∀ b, Mk β (Mk β Fb H) [] b → Mk β Fb H b := by
        rintro b (hb | ⟨q, hq, _⟩)
        · exact hb
        · exact absurd rfl hq
      have hargs0 : ∀ i, i < (appL x (appL (evs E (cOs m c.args)) y)).length → Rep w (Mk β (Mk β Fb H) []) β (Lt 0) ((A ++ c.args.map a.eval ++ C).getD i undef) ((appL x (appL (evs E (cOs m c.args)) y)).getD i .junk) := by
        intro i hi
        exact (hargs.2 i hi).mono (Nat.le_refl _) (fun _ _ _ => rfl) (fun b _ hb => hMk b hb) _ (Sub.no _) (fun _ _ => rfl)
      replace hcl : callFn X 0 [] (appL x (appL (evs E (cOs m c.args)) y)) (cF P g) = .ok d n2 h2 := hcl
      obtain ⟨fn', cc, f1, f2, f3, f4⟩ := callFn_ok hX hXb I0 hargs.1 hargs0 hcl
      rw [show (invoke (.fn (.func g) C) (A ++ c.args.map a.eval)).run P w = _ from run_callFunc f1 f2 f3]
      refine ⟨FR_depth ro, CallsIn.mono (f4 ro) (fun en w' hp => ?_)⟩
      obtain ⟨v, β', rfl, p1, p2, p3⟩ := hp
      have hkeep : ∀ b, b < w.heap.size → w'.heap[b]? = w.heap[b]? := fun b hb => p3.keep b hb (fun ⟨q, hq, _⟩ => hq rfl)
      refine hnext v w' ?_ ?_ ?_
      · exact (Rep.clo 20 p1 c3).mono (Nat.le_refl _) (fun _ _ _ => rfl) (fun b _ hb => .inl hb) No (Sub.refl _) (fun r hr => hr.elim)
      · exact I.gen p3.size (fun b c T fr hb _ => hkeep b (lt_of_some hb)) (fun r hr => hkeep _ (I.lt r hr))
      · exact ⟨p3.os, p3.tape, p3.output, p3.size, Sub.refl _, fun _ _ => rfl, fun b hb _ => hkeep b hb, fun _ _ h => h⟩
    | yld r => cases c1
    | _ => cases hcl

theorem any_ok (hX : CodeOk P X) (hXb : ∀ e n h, X .bad e n h = .bad) (hD : drawOk (Region.before ops) ops (dl P m ops) = true)
    (hG : ∀ j y, (dl P m ops)[j]? = some y → Good (callX (cF P) X) (dl P m ops) (cUn P m ops) e0 n0 h0 j y) {Q : Exit → Act → World → Prop}
    (hQ : ∀ β a w, St P s0 ro m Fb β (n0 + ops.size) (trj (callX (cF P) X) (dl P m ops) e0 n0 h0 ops.size).2 (trj (callX (cF P) X) (dl P m ops) e0 n0 h0 ops.size).1 a w →
      Adv β0 (Lt n0) h0 w0 β (Lt (n0 + ops.size)) (trj (callX (cF P) X) (dl P m ops) e0 n0 h0 ops.size).2 w → Q .normal a w) :
    ∀ (fuel : Nat) (listed : Array Bool) (β : Nat → Bk) (E : Tr) (H : Hps) (a : Act) (w : World), listed.size = ops.size → cnt listed.toList ≤ fuel → Dn ops (fun i => listed.getD i false = true) →
      Sim P m ops (callX (cF P) X) e0 n0 h0 (fun i => listed.getD i false = true) E H → StD P s0 ro m Fb β0 n0 h0 w0 (fun i => listed.getD i false = true) β E H a w →
      wpAnyIn (FR ro) 0 P .any ops Q fuel listed a w := by
  have static : ∀ j o, ops[j]? = some o → ∀ e, e ∈ o.after → Region.binds .any e = true → e.on < j := by
    intro j o ho e he hb
    unfold drawOk at hD
    rw [Bool.and_eq_true] at hD
    have hmem : (o, j) ∈ ops.toList.zipIdx := by
      rw [List.mem_zipIdx_iff_getElem?]
      simpa using ho
    have h1 := Array.all_eq_true_iff_forall_mem.1 (List.all_eq_true.1 hD.2 (o, j) hmem) e he
    rw [hb] at h1
    simpa using h1
  have done : ∀ (listed : Array Bool) (β : Nat → Bk) (E : Tr) (H : Hps) (a : Act) (w : World), listed.size = ops.size → (∀ i, i < ops.size → listed.getD i false = true) →
      Sim P m ops (callX (cF P) X) e0 n0 h0 (fun i => listed.getD i false = true) E H → StD P s0 ro m Fb β0 n0 h0 w0 (fun i => listed.getD i false = true) β E H a w → Q .normal a w := by
    intro listed β E H a w hsz hall M D
    have hU : US n0 (fun i => listed.getD i false = true) = Lt (n0 + ops.size) := by
      funext r
      apply propext
      constructor
      · rintro (h | ⟨i, h1, h2⟩)
        · exact Nat.lt_of_lt_of_le h (Nat.le_add_right _ _)
        · have : i < ops.size := by
            rcases Nat.lt_or_ge i listed.size with h | h
            · omega
            · have h3 : listed.getD i false = false := by simp [Array.getD_eq_getD_getElem?, Array.getElem?_eq_none h]
              rw [h3] at h1; cases h1
          show r < n0 + ops.size
          omega
      · intro h
        have h : r < n0 + ops.size := h
        by_cases h1 : r < n0
        · exact .inl h1
        · exact .inr ⟨r - n0, hall _ (by omega), by omega⟩
    have hagree : ∀ i x, (dl P m ops)[i]? = some x → (listed.getD i false = true ↔ i < ops.size) := by
      intro i x hx
      obtain ⟨_, _, _, hil⟩ := dl_get hx
      exact ⟨fun _ => hil, fun _ => hall i hil⟩
    have hh : ∀ q, getO H q = getO (trj (callX (cF P) X) (dl P m ops) e0 n0 h0 ops.size).2 q := fun q => M.heap q ops.size (Nat.le_refl _) (fun i x hx _ _ => hagree i x hx)
    have he : ∀ p, get p E = get p (trj (callX (cF P) X) (dl P m ops) e0 n0 h0 ops.size).1 := fun p => M.env p ops.size (Nat.le_refl _) (fun i x hx _ => hagree i x hx)
    obtain ⟨d1, d2, d3, d4, d5, d6, d7⟩ := D
    rw [hU] at d1 d2 d4
    have Ax : Adv β (Lt (n0 + ops.size)) H w β (Lt (n0 + ops.size)) (trj (callX (cF P) X) (dl P m ops) e0 n0 h0 ops.size).2 w := Adv.ext hh
    refine hQ β a w ⟨d1.ext hh, ⟨d2.1, fun t ht => ?_⟩, d3, d5.adv Ax, d6.adv Ax, d7⟩ (d4.trans Ax)
    rw [← he]
    exact (d2.2 t ht).adv Ax (Sub.refl _) _ (Sub.refl _)
  intro fuel
  induction fuel with
  | zero =>
    intro listed β E H a w hsz hc hDn M D
    have hall : ∀ i, i < ops.size → listed.getD i false = true := by
      intro i hi
      have := cnt_zero (l := listed.toList) (by omega) i (by simpa [hsz] using hi)
      simp only [Array.getElem?_toList] at this
      simp [Array.getD_eq_getD_getElem?, this]
    refine ⟨?_, done listed β E H a w hsz hall M D⟩
    apply List.eq_nil_iff_forall_not_mem.2
    intro j hj
    rw [mem_ready] at hj
    obtain ⟨h1, o, ho, _⟩ := hj
    have hlt := (Array.getElem?_eq_some_iff.1 ho).1
    have h2 := hall j hlt
    rw [Array.getD_eq_getD_getElem?, Array.getElem?_eq_getElem (by omega)] at h1 h2
    simp only [Option.getD_some] at h1 h2
    rw [h1] at h2
    cases h2
  | succ fuel ih =>
    intro listed β E H a w hsz hc hDn M D
    refine ⟨fun hr => ?_, fun j hj => ?_⟩
    · have hall : ∀ i, i < ops.size → listed.getD i false = true := by
        intro i
        induction i using Nat.strongRecOn with
        | _ i ihi =>
          intro hi
          cases hb : listed.getD i false with
          | true => rfl
          | false =>
            exfalso
            have : i ∈ Region.ready .any ops listed := by
              rw [mem_ready]
              refine ⟨?_, ops[i], by simp [hi], fun e he hbd => ?_⟩
              · rw [Array.getD_eq_getD_getElem?, Array.getElem?_eq_getElem (by omega)] at hb ⊢
                exact hb
              · have h1 := static i ops[i] (by simp [hi]) e he hbd
                exact ihi e.on h1 (by omega)
            rw [hr] at this
            cases this
      exact done listed β E H a w hsz hall M D
    · rw [mem_ready] at hj
      obtain ⟨hj1, o, ho, hj2⟩ := hj
      have hjl := (Array.getElem?_eq_some_iff.1 ho).1
      have hjf : listed.getD j false = false := by
        rw [Array.getD_eq_getD_getElem?, Array.getElem?_eq_getElem (by omega)] at hj1 ⊢
        exact hj1
      have hnS : ¬ listed.getD j false = true := by rw [hjf]; exact fun h => by cases h
      have hx : (dl P m ops)[j]? = some (cOper P m ops o) := by
        rw [List.getElem?_map]
        have : ops.toList[j]? = some o := by simpa using ho
        rw [this]; rfl
      have hSet : (fun i => (listed.setIfInBounds j true).getD i false = true) = Plus (fun i => listed.getD i false = true) j := by
        funext i
        apply propext
        by_cases e : j = i
        · subst e
          have : (listed.setIfInBounds j true).getD j false = true := by
            rw [Array.getD_eq_getD_getElem?]
            simp [show j < listed.size by omega]
          exact ⟨fun _ => .inr rfl, fun _ => this⟩
        · rw [getD_set_ne false e]
          exact ⟨fun h => .inl h, fun h => h.resolve_right (fun e2 => e e2.symm)⟩
      have hDn' : Dn ops (Plus (fun i => listed.getD i false = true) j) := by
        intro i o2 ho2 hi e he hb
        rcases hi with hi | rfl
        · exact .inl (hDn i o2 ho2 hi e he hb)
        · rw [ho] at ho2
          cases ho2
          exact .inl (hj2 e he hb)
      have hcnt : cnt (listed.setIfInBounds j true).toList ≤ fuel := by
        rw [Array.toList_setIfInBounds]
        have := cnt_set (l := listed.toList) (i := j) (by
          rw [Array.getD_eq_getD_getElem?, Array.getElem?_eq_getElem (by omega)] at hjf
          simp only [Array.getElem?_toList]
          rw [Array.getElem?_eq_getElem (by omega)]
          exact congrArg some hjf)
        omega
      have hgo : ∀ (β' : Nat → Bk) (E' : Tr) (H' : Hps) (a' : Act) (w' : World), Sim P m ops (callX (cF P) X) e0 n0 h0 (Plus (fun i => listed.getD i false = true) j) E' H' →
          StD P s0 ro m Fb β0 n0 h0 w0 (Plus (fun i => listed.getD i false = true) j) β' E' H' a' w' → wpAnyIn (FR ro) 0 P .any ops Q fuel (listed.setIfInBounds j true) a' w' := by
        intro β' E' H' a' w' M' D'
        refine ih (listed.setIfInBounds j true) β' E' H' a' w' (by simpa using hsz) hcnt ?_ ?_ ?_
        · rw [hSet]; exact hDn'
        · rw [hSet]; exact M'
        · rw [hSet]; exact D'
      have g := hG j _ hx
      have hrd := fun p hp => M.reads (p := p) hD hDn hDn' hnS hx hp
      have htc := fun q hq => M.touched (q := q) hG hDn hDn' hnS hx hq
      unfold wpOpIn
      simp only [ho]
      cases hcd : cDst m o.dst with
      | none =>
        exfalso
        have hco : cOper P m ops o = .op none none .bad := by unfold cOper; rw [hcd]
        rw [hco] at g
        have hw := g.wnt
        cases hb : (nxt (callX (cF P) X) (trj (callX (cF P) X) (dl P m ops) e0 n0 h0 j).1 (n0 + j) (trj (callX (cF P) X) (dl P m ops) e0 n0 h0 j).2 (.op none none .bad)).1 with
        | true => have := (g.yes hb).2.1; cases this
        | false => rw [hb] at hw; cases hw
      | some dp =>
      cases hcg : cG m ops o.guard with
      | none =>
        exfalso
        have hco : cOper P m ops o = .op none none .bad := by unfold cOper; rw [hcd, hcg]
        rw [hco] at g
        have hw := g.wnt
        cases hb : (nxt (callX (cF P) X) (trj (callX (cF P) X) (dl P m ops) e0 n0 h0 j).1 (n0 + j) (trj (callX (cF P) X) (dl P m ops) e0 n0 h0 j).2 (.op none none .bad)).1 with
        | true => have := (g.yes hb).2.1; cases this
        | false => rw [hb] at hw; cases hw
      | some gg =>
        have hco : cOper P m ops o = .op dp gg (cOp P m o) := by unfold cOper; rw [hcd, hcg]
        rw [hco] at g hx hrd
        have hwE : want E gg = want (trj (callX (cF P) X) (dl P m ops) e0 n0 h0 j).1 gg := by
          cases gg with
          | none => rfl
          | some q => show wantB q.2 (get q.1 E) = wantB q.2 (get q.1 _); rw [hrd q.1 (by simp [rdP, rdG])]
        have hw1 : want E gg = .ok (nxt (callX (cF P) X) (trj (callX (cF P) X) (dl P m ops) e0 n0 h0 j).1 (n0 + j) (trj (callX (cF P) X) (dl P m ops) e0 n0 h0 j).2 (.op dp gg (cOp P m o))).1 := hwE.trans g.wnt
        rw [want_ok (ops := ops) D.env D.sz hcg hw1]
        cases hb : (nxt (callX (cF P) X) (trj (callX (cF P) X) (dl P m ops) e0 n0 h0 j).1 (n0 + j) (trj (callX (cF P) X) (dl P m ops) e0 n0 h0 j).2 (.op dp gg (cOp P m o))).1 with
        | false =>
          obtain ⟨k1, k2, k3⟩ := g.no hb
          simp only [Bool.false_eq_true, if_false]
          refine ⟨fun _ _ => trivial, ?_⟩
          have M' := M.step hD hG hDn hDn' hnS hx (H' := H) (fun q hq => by rw [k3] at hq; cases hq) (fun _ _ => rfl)
          rw [k1] at M'
          exact hgo β _ H _ w M' (D.next (j := j) (d := .tup []) hcd (.tup #[] [] rfl (fun i hi => absurd hi (Nat.not_lt_zero _))) D.inv.up (Adv.up (N := n0 + j) D.inv))
        | true =>
          obtain ⟨k1, k2, k3⟩ := g.yes hb
          simp only [if_true]
          have hEv : ∀ p, p ∈ rdOp (cOp P m o) → get p (trj (callX (cF P) X) (dl P m ops) e0 n0 h0 j).1 = get p E := fun p hp => (hrd p (List.mem_append_right _ hp)).symm
          have hHp : ∀ q, q ∈ touch (trj (callX (cF P) X) (dl P m ops) e0 n0 h0 j).1 (n0 + j) (cOp P m o) → getO (trj (callX (cF P) X) (dl P m ops) e0 n0 h0 j).2 q = getO H q := fun q hq => (htc q (k1 ▸ hq)).symm
          obtain ⟨H1, f1, f2, f3⟩ := opP_frame (call := callX (cF P) X) (o := cOp P m o) hEv hHp _ _ _ k2
          have M' := M.step hD hG hDn hDn' hnS hx (H' := H1) (fun q hq => f2 q (k1 ▸ hq)) (fun q hq => (f3 q (fun h => hq (k1 ▸ h))).2)
          have hfresh : ¬ US n0 (fun i => listed.getD i false = true) (n0 + j) := by
            rintro (h | ⟨i, h1, h2⟩)
            · omega
            · have : i = j := by omega
              subst this
              exact hnS h1
          rcases cOp_call (P := P) (m := m) o with ⟨c, f, hoc, hcc⟩ | hn
          · have hcop : cOp P m o = .call (cO m f) (cOs m c.args) := by
              unfold cOp; rw [hoc]; show cCall P m c = _; unfold cCall; rw [hcc]
            have f1' := f1
            rw [hcop] at f1'
            have hpc : ∀ (next : Act → World → Prop) (Q : Exit → Act → World → Prop), _ → H1 = H ∧ o.wpIn (FR ro) 0 P a w next Q := fun next Q hnext => pure_ok hX hXb D.inv D.env D.sz hoc hcc f1' hnext
            refine (hpc _ _ (fun v w' q1 q2 q3 => ?_)).2
            rw [← hcop] at q1
            have hH1 : H1 = H := (pure_ok (ro := ro) (next := fun _ _ => True) (Q := fun _ _ _ => True) hX hXb D.inv D.env D.sz hoc hcc f1' (fun _ _ _ _ _ => trivial)).1
            subst hH1
            exact hgo β _ H1 _ w' M' (D.next (j := j) hcd (q1.mono (Nat.le_refl _) (fun _ _ _ => rfl) (fun _ _ h => h) _ (Sub.no _) (fun _ _ => rfl)) q2.up (q3.trans (Adv.up (N := n0 + j) q2)))
          · have hpd : ∀ e n h, opP (callX (cF P) X) e n h (cOp P m o) = opD e n h (cOp P m o) := by
              intro e n h
              cases hh : cOp P m o <;> first | rfl | (rw [hh] at hn; cases hn)
            rw [hpd] at f1
            obtain ⟨v, w', β', r1, r2, r3, r4⟩ := opD_ok (P := P) D.inv hfresh D.env D.sz o f1
            refine ⟨fun _ _ => trivial, ?_⟩
            rw [Oper.semAt_eq _ _ _ (not_defer f1)]
            rcases r1 with r1 | ⟨r1, rfl⟩
            · rw [r1]; exact hgo β' _ H1 _ w' M' (D.next (j := j) hcd r2 r3 r4)
            · rw [r1]; exact hgo β' _ H1 _ w' M' (D.next (j := j) hcd r2 r3 r4)

theorem draw_ok (hmix : P.follows .mixedOrders = true) : ∀ X, CodeOk P X → (∀ e n h, X .bad e n h = .bad) → DrawOk P X := by
  intro X hX hXb id ops s0 ro m Fb β n h e a w x e' n' h' Q S hD hd hQ
  obtain ⟨rfl, rfl, rfl, rfl, hG⟩ := draw_good (call := callX (cF P) X) (L := dl P m ops) (e0 := e) (n0 := n) (h0 := h) (un := cUn P m ops) (dl P m ops) 0 (cUn P m ops) [] rfl (by simp) rfl (fun i hi => absurd hi (Nat.not_lt_zero _)) hd
  have hlen : (dl P m ops).length = ops.size := by simp
  rw [hlen] at hQ
  have hr0 : ∀ i, (Array.replicate ops.size false).getD i false = true → False := by
    intro i hi
    have : (Array.replicate ops.size false).getD i false = false := by
      rw [Array.getD_eq_getD_getElem?, Array.getElem?_replicate]
      split <;> rfl
    rw [this] at hi
    cases hi
  have hU : US n (fun i => (Array.replicate ops.size false).getD i false = true) = Lt n := by
    funext r
    apply propext
    exact ⟨fun h => h.elim (fun x => x) (fun ⟨i, h1, _⟩ => (hr0 i h1).elim), .inl⟩
  have hcnt0 : ∀ k, cnt (List.replicate k false) = k := by
    intro k
    induction k with
    | zero => rfl
    | succ k ih => show cnt (List.replicate k false) + 1 = k + 1; rw [ih]
  refine wpIn_region_any hmix (any_ok (n0 := n) (h0 := h) (e0 := e) (β0 := β) (w0 := w) hX hXb hD (fun j y hy => hG j y (Nat.zero_le _) hy) (fun β' a' w' S' A' => hQ β' a' w' S' A') ops.size _ β e h a _ (by simp) (by simp [hcnt0]) ?_ ?_ ?_)
  · intro j o _ hj; exact (hr0 j hj).elim
  · have hzero : ∀ {C : Nat → DOper → Prop} {t : Nat}, t ≤ ops.size → (∀ i x, (dl P m ops)[i]? = some x → C i x → ((Array.replicate ops.size false).getD i false = true ↔ i < t)) → ∀ i x, i < t → (dl P m ops)[i]? = some x → ¬ C i x :=
      fun ht hw i x hi hx hc => hr0 i ((hw i x hx hc).2 hi)
    have hget : ∀ i, i < ops.size → ∃ y, (dl P m ops)[i]? = some y := fun i hi => ⟨cOper P m ops ops[i], by simp [hi]⟩
    refine ⟨fun p t => ?_, fun q t => ?_⟩
    · induction t with
      | zero => intro _ _; rfl
      | succ t ih =>
        intro ht hw
        obtain ⟨y, hy⟩ := hget t (by omega)
        have hn := hzero (C := fun i x => p ∈ wrP x) ht hw t y (Nat.lt_succ_self _) hy
        rw [(hG t y (Nat.zero_le _) hy).env]
        have hput : get p (putE (trj (callX (cF P) X) (dl P m ops) e n h t).1 (dP y) (nxt (callX (cF P) X) (trj (callX (cF P) X) (dl P m ops) e n h t).1 (n + t) (trj (callX (cF P) X) (dl P m ops) e n h t).2 y).2.1) = get p (trj (callX (cF P) X) (dl P m ops) e n h t).1 := by
          obtain ⟨dst, g, o⟩ := y
          cases dst with
          | none => rfl
          | some r => exact get_put_ne _ p r _ (fun h => hn (by simp [wrP, wrD, h]))
        rw [hput]
        refine ih (by omega) (fun i x hx hc => ⟨fun h => (hr0 i h).elim, fun hlt => ?_⟩)
        exact (hw i x hx hc).2 (by omega)
    · induction t with
      | zero => intro _ _; rfl
      | succ t ih =>
        intro ht hw
        obtain ⟨y, hy⟩ := hget t (by omega)
        rw [heap_kept (fun j y hy => hG j y (Nat.zero_le _) hy) hy (fun hc => hr0 t ((hw t y hy hc.1 hc.2).2 (Nat.lt_succ_self _)))]
        refine ih (by omega) (fun i x hx hl hc => ⟨fun h => (hr0 i h).elim, fun hlt => ?_⟩)
        exact (hw i x hx hl hc).2 (by omega)
  · refine ⟨?_, ?_, S.sz, ?_, S.dfr, S.rnd, S.s0⟩
    · rw [hU]; exact Inv.gen (w := w) (Nat.le_refl _) (fun _ _ _ _ _ _ => rfl) (fun _ _ => rfl) S.inv
    · rw [hU]; exact EnvOk.gen (w := w) (Nat.le_refl _) (fun _ _ _ _ _ _ => rfl) S.env
    · rw [hU]; exact ⟨rfl, rfl, rfl, Nat.le_refl _, Sub.refl _, fun _ _ => rfl, fun _ _ _ => rfl, fun _ _ h => h⟩

/-- **the data-level run of a program's code tells what the model comes to** -/
theorem run_ok (hmix : P.follows .mixedOrders = true) (fuel : Nat) : CodeOk P (exec (cF P) fuel) := @exec_ok P (draw_ok hmix) fuel
end
end Go.Proofs.Ytneohijnemjffaa
