/- A region that leaves its order open. Second part: what any order has done stands to what the text's order does. No condition. -/
import Derived.Test.YtneohijnemjffaaA24
set_option linter.unusedSimpArgs false
set_option linter.unusedVariables false
namespace Go.Proofs.Ytneohijnemjffaa
open Go

theorem opP_frame {call : CallF} {e e' : Tr} {n : Nat} {h h' : Hps} {o : DOp} (he : ∀ p, p ∈ rdOp o → get p e = get p e') (hh : ∀ q, q ∈ touch e n o → getO h q = getO h' q) : Fr (touch e n o) h h' (opP call e n h o) (opP call e' n h' o) := by
  by_cases hc : notCall o = true
  · have h1 : ∀ e n h, opP call e n h o = opD e n h o := by intro e n h; cases o <;> first | rfl | cases hc
    rw [h1, h1]
    exact opD_frame he hh
  · cases o <;> first | exact absurd rfl hc | skip
    rename_i f args
    have e1 : ev e f = ev e' f := ev_eq (fun p hp => he p (List.mem_append_left _ hp))
    have e2 : evs e args = evs e' args := evs_same (fun p hp => he p (List.mem_append_right _ hp))
    show Fr [] h h' (pureC n h (ev e f) (evs e args) (call 0 [] (ev e f) (evs e args))) (pureC n h' (ev e' f) (evs e' args) (call 0 [] (ev e' f) (evs e' args)))
    rw [e1, e2]
    cases call 0 [] (ev e' f) (evs e' args) with
    | bad => exact Fr.bad
    | ok d n2 h2 => exact Fr.still (F := fun h => ifR _ (.ok d n h)) (Still.ifR _ (Still.ok _ _)) (by intro q hq; cases hq)

theorem touch_loud {e : Tr} {n q : Nat} {o : DOp} (hq : q ∈ touch e n o) : 0 < loud o := by
  cases o <;> first | (simp only [loud]; omega) | (simp only [touch] at hq; cases hq)

theorem opD_quiet {e : Tr} {n : Nat} {h : Hps} {o : DOp} (hl : loud o < 2) {d : D} {n1 : Nat} {h1 : Hps} (hd : opD e n h o = .ok d n1 h1) : h1 = h := by
  have hF : Fr (touch e n o) h h (opD e n h o) (opD e n h o) := opD_frame (fun _ _ => rfl) (fun _ _ => rfl)
  have okd : ∀ x, okD n h x = .ok d n1 h1 → h1 = h := fun x hx => by obtain ⟨_, _, h3, _⟩ := okD_inv hx; exact h3.symm
  have still : ∀ {F : Hps → Rd}, Still F → F h = .ok d n1 h1 → h1 = h := fun hF e => (hF h h d n1 h1 e).1
  cases o with
  | mv x => cases hd; rfl
  | pick c a b => refine still (F := fun h => pickD n h _ _ _) ?_ hd; cases ev e c <;> first | exact Still.ok _ _ | exact Still.bad
  | build zs ps => refine still (F := fun h => buildD n h _) ?_ hd; cases fillP e ps (some zs) <;> first | exact Still.ok _ _ | exact Still.bad
  | load ag k a =>
    have hd : loadD ag k n h (ev e a) = .ok d n1 h1 := hd
    cases hv : ev e a with
    | ptr q i j =>
      rw [hv] at hd
      have hd : loadR ag k i j n h (getO h q) = .ok d n1 h1 := hd
      cases hg : getO h q with
      | row kk es => rw [hg] at hd; exact okd _ hd
      | _ => rw [hg] at hd; cases hd
    | ip y j => rw [hv] at hd; exact okd _ hd
    | _ => rw [hv] at hd; cases hd
  | bin op x y => exact okd _ hd
  | cmp neg t x y => obtain ⟨_, _, _, h3⟩ := obR_inv (show obR n h neg (eqD t (ev e x) (ev e y)) = .ok d n1 h1 from hd); exact h3
  | not x => refine still (F := fun h => notD n h _) ?_ hd; cases ev e x <;> first | exact Still.ok _ _ | exact Still.bad
  | neg x => refine still (F := fun h => negD n h _) ?_ hd; cases ev e x <;> first | exact Still.ok _ _ | exact Still.bad
  | faddr o x => refine still (F := fun h => faddrD n h o _) ?_ hd; cases ev e x <;> first | exact Still.ok _ _ | exact Still.bad
  | fld ag o k x => refine still (F := fun h => fldD n h ag o k _) ?_ hd; cases ev e x <;> first | exact Still.okD _ _ | exact Still.bad
  | look t z ok m i =>
    have hd : lookD n h t z ok (ev e i) (ev e m) = .ok d n1 h1 := hd
    have hl : ∀ o, lookR n h t z ok (ev e i) o = .ok d n1 h1 → h1 = h := by
      intro o ho
      cases o with
      | map es =>
        have ho : lookF n h z ok (findK t (ev e i) es) = .ok d n1 h1 := ho
        cases hf : findK t (ev e i) es <;> rw [hf] at ho <;> cases ho <;> rfl
      | _ => cases ho
    cases hv : ev e m with
    | mp q => rw [hv] at hd; exact hl _ hd
    | nilm => rw [hv] at hd; exact hl (.map []) hd
    | _ => rw [hv] at hd; cases hd
  | len t x =>
    have hd : lenD n h t (ev e x) = .ok d n1 h1 := hd
    cases t with
    | str => refine still (F := fun h => lenS n h _) ?_ hd; cases ev e x <;> first | exact Still.ok _ _ | exact Still.bad
    | slice => refine still (F := fun h => lenC n h _) ?_ hd; cases ev e x <;> first | exact Still.ok _ _ | exact Still.bad
    | map =>
      cases hv : ev e x with
      | mp q =>
        rw [hv] at hd
        have hd : lenM n h (getO h q) = .ok d n1 h1 := hd
        cases hg : getO h q <;> rw [hg] at hd <;> cases hd
        rfl
      | nilm => rw [hv] at hd; cases hd; rfl
      | _ => rw [hv] at hd; cases hd
    | _ => cases hd
  | mkfn => cases hd; rfl
  | max x y => refine still (F := fun h => maxD n h _ _) ?_ hd; cases ev e x <;> first | exact Still.bad | (cases ev e y <;> first | exact Still.ok _ _ | exact Still.bad)
  | min x y => refine still (F := fun h => minD n h _ _) ?_ hd; cases ev e x <;> first | exact Still.bad | (cases ev e y <;> first | exact Still.ok _ _ | exact Still.bad)
  | nilck x => refine still (F := fun h => nilckD n h _) ?_ hd; cases ev e x <;> first | exact Still.ok _ _ | exact Still.bad
  | ext x i => refine still (F := fun h => extD n h i _) ?_ hd; cases ev e x <;> first | exact Still.okD _ _ | exact Still.bad
  | iaddr k x i => refine still (F := fun h => natR (iaddrD n h k _) _) (Still.natR _ (fun m => ?_)) hd; cases ev e x <;> first | exact Still.ifR _ (Still.ok _ _) | exact Still.bad
  | cvi k x => refine still (F := fun h => cviD n h k _) ?_ hd; cases ev e x <;> first | exact Still.ok _ _ | exact Still.bad
  | paddr k m x i => refine still (F := fun h => natR (paddrD n h k m _) _) (Still.natR _ (fun j => ?_)) hd; cases ev e x <;> first | exact Still.ifR _ (Still.ok _ _) | exact Still.bad
  | aidx ag k m x i => refine still (F := fun h => natR (aidxD n h ag k m _) _) (Still.natR _ (fun m => ?_)) hd; cases ev e x <;> first | exact Still.ifR _ (Still.okD _ _) | exact Still.bad
  | sidx x i =>
    refine still (F := fun h => natR (sidxD n h _) _) (Still.natR _ (fun m => ?_)) hd
    cases ev e x with
    | str s =>
      cases hn : nthN s m with
      | none =>
        have : (fun h => sidxD n h (.str s) m) = fun _ => Rd.bad := by funext h; simp only [sidxD, hn]
        rw [this]; exact Still.bad
      | some b =>
        have : (fun h => sidxD n h (.str s) m) = fun h => Rd.ok (.int .u8 (.ofNat b)) n h := by funext h; simp only [sidxD, hn]
        rw [this]; exact Still.ok _ _
    | _ => exact Still.bad
  | slice k x lo hi mx =>
    have h2 : Still (fun h => slice2 n h k e (ev e x) lo hi) := by
      cases ev e x <;> first | exact Still.ifR _ (Still.optN _ _ _ (fun _ => Still.optN _ _ _ (fun _ => Still.ifR _ (Still.ok _ _)))) | exact Still.optN _ _ _ (fun _ => Still.optN _ _ _ (fun _ => Still.ifR _ (Still.ok _ _))) | exact Still.bad
    have h3 : Still (fun h => slice3 n h k e (ev e x) lo hi mx) := by
      cases ev e x <;> first | exact Still.ifR _ (Still.optN _ _ _ (fun _ => Still.optN _ _ _ (fun _ => Still.optN _ _ _ (fun _ => Still.ifR _ (Still.ok _ _))))) | exact Still.optN _ _ _ (fun _ => Still.optN _ _ _ (fun _ => Still.optN _ _ _ (fun _ => Still.ifR _ (Still.ok _ _)))) | exact Still.bad
    cases mx with
    | none => exact still h2 hd
    | some m => cases hi with
      | none => cases hd
      | some u => exact still h3 hd
  | sslice x lo hi => refine still (F := fun h => ssliceD n h e _ lo hi) ?_ hd; cases ev e x <;> first | exact Still.optN _ _ _ (fun _ => Still.optN _ _ _ (fun _ => Still.ifR _ (Still.ok _ _))) | exact Still.bad
  | call => cases hd
  | bad => cases hd
  | _ => simp only [loud] at hl; omega

theorem opP_quiet {call : CallF} {e : Tr} {n : Nat} {h : Hps} {o : DOp} (hl : loud o < 2) {d : D} {n1 : Nat} {h1 : Hps} (hd : opP call e n h o = .ok d n1 h1) : h1 = h := by
  by_cases hc : notCall o = true
  · have he : opP call e n h o = opD e n h o := by cases o <;> first | rfl | cases hc
    rw [he] at hd
    exact opD_quiet hl hd
  · cases o <;> first | exact absurd rfl hc | skip
    rename_i f args
    have hd2 : pureC n h (ev e f) (evs e args) (call 0 [] (ev e f) (evs e args)) = .ok d n1 h1 := hd
    cases hcl : call 0 [] (ev e f) (evs e args) with
    | bad => rw [hcl] at hd2; cases hd2
    | ok d2 n2 h2 =>
      rw [hcl] at hd2
      have := (ifR_inv (show ifR (Bool.and (clo 20 (ev e f)) (Bool.and (allL (clo 20) (evs e args)) (clo 20 d2))) (.ok d2 n h) = .ok d n1 h1 from hd2)).2
      cases this
      rfl

theorem eqPo_refl : ∀ p : Po, eqPo p p = true
  | .h => rfl
  | .o p => eqPo_refl p
  | .i p => eqPo_refl p
theorem apartPo_spec {a b : List Po} (h : apartPo a b = true) {p : Po} (ha : p ∈ a) (hb : p ∈ b) : False := by
  have := List.all_eq_true.1 (List.all_eq_true.1 h p ha) p hb
  rw [eqPo_refl] at this
  cases this

/-! ### which operations are bound to come first -/
def Dn (ops : Array Oper) (S : Nat → Prop) : Prop := ∀ j o, ops[j]? = some o → S j → ∀ e, e ∈ o.after → Region.binds .any e = true → S e.on

theorem before_spec {ops : Array Oper} {S : Nat → Prop} (hS : Dn ops S) {i j : Nat} (hb : ((Region.before ops).getD j 0).testBit i = true) (hj : S j) : S i := by
  have hfold : ∀ (acc : Array Nat) (l : List Edge) (s0 : Nat) (i : Nat), (l.foldl (fun s e => if Region.binds .any e then s ||| 2 ^ e.on ||| acc.getD e.on 0 else s) s0).testBit i = true →
      s0.testBit i = true ∨ ∃ e, e ∈ l ∧ Region.binds .any e = true ∧ (i = e.on ∨ (acc.getD e.on 0).testBit i = true) := by
    intro acc l
    induction l with
    | nil => intro s0 i h; exact .inl h
    | cons e l ih =>
      intro s0 i h
      rw [List.foldl_cons] at h
      rcases ih _ i h with h1 | ⟨e2, h1, h2⟩
      · split at h1
        · rename_i hbd
          rw [Nat.testBit_or, Nat.testBit_or, Bool.or_eq_true, Bool.or_eq_true] at h1
          rcases h1 with (h1 | h1) | h1
          · exact .inl h1
          · right
            refine ⟨e, by simp, hbd, .inl ?_⟩
            rw [Nat.testBit_two_pow] at h1
            simpa using (by simpa using h1 : e.on = i).symm
          · exact .inr ⟨e, by simp, hbd, .inr h1⟩
        · exact .inl h1
      · exact .inr ⟨e2, by simp [h1], h2⟩
  have main : ∀ (l : List Oper) (acc : Array Nat), (∀ x, x < l.length → ops[acc.size + x]? = l[x]?) → (∀ j i, (acc.getD j 0).testBit i = true → S j → S i) →
      ∀ j i, ((l.foldl (fun acc o => acc.push (o.after.foldl (fun s e => if Region.binds .any e then s ||| 2 ^ e.on ||| acc.getD e.on 0 else s) 0)) acc).getD j 0).testBit i = true → S j → S i := by
    intro l
    induction l with
    | nil => intro acc _ hacc; exact hacc
    | cons o l ih =>
      intro acc hl hacc
      rw [List.foldl_cons]
      have ho : ops[acc.size]? = some o := by simpa using hl 0 (by simp)
      refine ih _ (fun x hx => ?_) (fun j i hb hj => ?_)
      · have := hl (x + 1) (by simp; omega)
        rw [Array.size_push, show acc.size + 1 + x = acc.size + (x + 1) by omega]
        simpa using this
      · rw [Array.getD_eq_getD_getElem?, Array.getElem?_push] at hb
        split at hb
        · rename_i hjs
          subst hjs
          simp only [Option.getD_some] at hb
          rw [← Array.foldl_toList] at hb
          rcases hfold acc o.after.toList 0 i hb with h1 | ⟨e, h1, h2, h3⟩
          · simp at h1
          · have hse := hS _ o ho hj e (Array.mem_toList_iff.1 h1) h2
            rcases h3 with rfl | h3
            · exact hse
            · exact hacc _ _ h3 hse
        · rw [← Array.getD_eq_getD_getElem?] at hb
          exact hacc j i hb hj
  unfold Region.before at hb
  rw [← Array.foldl_toList] at hb
  exact main ops.toList #[] (fun x hx => by simp) (fun j i h => by simp at h) j i hb hj
end Go.Proofs.Ytneohijnemjffaa
