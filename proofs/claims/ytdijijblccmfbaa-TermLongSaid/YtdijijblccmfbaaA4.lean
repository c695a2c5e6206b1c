/- Each operation, run. Second part: what reads and writes memory. No condition. -/
import Derived.Test.YtdijijblccmfbaaA3
set_option linter.unusedSimpArgs false
set_option linter.unusedVariables false
namespace Go.Proofs.Ytdijijblccmfbaa
open Go

theorem okD_inv {n n' : Nat} {h h' : Hps} {x d : D} (e : okD n h x = .ok d n' h') : x = d ∧ n = n' ∧ h = h' ∧ d ≠ .junk := by
  cases x <;> first | (cases e; done) | (cases e; exact ⟨rfl, rfl, rfl, fun h => by cases h⟩)
theorem ifR_inv {b : Bool} {r : Rd} {d : D} {n : Nat} {h : Hps} (e : ifR b r = .ok d n h) : b = true ∧ r = .ok d n h := by
  cases b with
  | true => exact ⟨rfl, e⟩
  | false => cases e
theorem boolrec_D {b : Bool} {x : D} (e : (Bool.rec (motive := fun _ => D) .junk x b) ≠ .junk) : b = true := by
  cases b with
  | true => rfl
  | false => exact absurd rfl e

/-- a part of a value: the cells j .. of its cells -/
theorem sub_ag {k j : Nat} {e d : D} (he : sub true k j e = d) (hd : d ≠ .junk) : ∃ cs, e = .agg cs ∧ j + k ≤ cs.length + (if k = 0 then j else 0) ∧ d = .agg ((cs.drop j).take k) ∧ ((cs.drop j).take k).length = k := by
  cases e with
  | agg cs =>
    have h1 : subW k (takeL k (dropL j cs)) = d := he
    rw [takeL_eq, dropL_eq] at h1
    unfold subW at h1
    rw [lenL_eq, beq_iff] at h1
    by_cases hk : k = ((cs.drop j).take k).length
    · rw [decide_eq_true hk] at h1
      refine ⟨cs, rfl, ?_, h1.symm, hk.symm⟩
      have h2 := hk
      simp only [List.length_take, List.length_drop] at h2
      split
      · omega
      · omega
    · rw [decide_eq_false hk] at h1
      exact absurd h1.symm hd
  | _ => exact absurd he.symm hd
theorem sub_one {k j : Nat} {e d : D} (he : sub false k j e = d) (hd : d ≠ .junk) : j < (cells e).length ∧ (cells e).getD j .junk = d := by
  cases e with
  | agg cs =>
    have h1 : nth cs j = d := he
    rw [nth_eq] at h1
    refine ⟨?_, h1⟩
    show j < cs.length
    by_cases hj : j < cs.length
    · exact hj
    · exfalso
      apply hd
      rw [← h1]
      simp [List.getD_eq_getElem?_getD, hj]
  | _ =>
    cases j with
    | zero => exact ⟨Nat.lt_succ_self _, he⟩
    | succ j => exact absurd he.symm hd

section
variable {P : Program} {RC : Nat → Code → DCode → Prop} {Fb : Nat → Prop} {β : Nat → Bk} {U : Us} {N : Nat} {h : Hps} {w : World}

theorem run_isAgg {t : TypeId} {dd : TypeDesc} (hu : P.underlying t = some dd) (w : World) : (isAgg t).run P w = .ok (aggD dd) w := by
  unfold isAgg
  rw [Sem.run_bind, run_underlying hu]
  simp only [Result.andThen_ok]
  cases dd <;> rfl
theorem run_sizeOf {t : TypeId} {i : TypeInfo} (hi : P.info? t = some i) (w : World) : (sizeOf t).run P w = .ok i.size w := by
  simp [sizeOf, typeInfo, hi]

/-- a load out of an element whose cells are known -/
theorem load_ok {M : Nat → Prop} {N0 : Us} {t : TypeId} {i : TypeInfo} {dd : TypeDesc} (hi : P.info? t = some i) (hu : P.underlying t = some dd) {b o j : Nat} {e d : D} {vs : Nat → Value}
    (hc : ∀ x, x < (cells e).length → w.cell? ⟨b, o + x, none⟩ = some (vs x)) (ho : ∀ x, x < (cells e).length → (vs x).oneCell' = true)
    (hr : ∀ x, x < (cells e).length → Rep w M β N0 (vs x) ((cells e).getD x .junk)) (hs : sub (aggD dd) i.size j e = d) (hd : d ≠ .junk) :
    ∃ v, (loadVar t ⟨b, o + j, none⟩).run P w = .ok v w ∧ Rep w M β N0 v d := by
  cases hag : aggD dd with
  | true =>
    rw [hag] at hs
    obtain ⟨cs, rfl, h1, rfl, h2⟩ := sub_ag hs hd
    have hlen : ∀ x, x < i.size → j + x < cs.length := by
      intro x hx
      rw [if_neg (by omega)] at h1
      omega
    refine ⟨.agg ((List.range i.size).map fun x => vs (j + x)).toArray, ?_, ?_⟩
    · unfold loadVar
      rw [Sem.run_bind, run_isAgg hu, hag]
      simp only [Result.andThen_ok, if_true]
      rw [Sem.run_bind, run_sizeOf hi]
      simp only [Result.andThen_ok]
      rw [Sem.run_bind, run_loadCells w ⟨b, o + j, none⟩ i.size (fun x => vs (j + x)) (fun x hx => by
        rw [Addr.add_lit, Nat.add_assoc]
        exact hc (j + x) (hlen x hx))]
      rfl
    · have e1 : ∀ x, x < i.size → ((cs.drop j).take i.size).getD x .junk = cs.getD (j + x) .junk := by
        intro x hx
        simp [List.getD_eq_getElem?_getD, List.getElem?_take, hx, List.getElem?_drop]
      have e2 : ∀ x, x < i.size → (((List.range i.size).map fun x => vs (j + x)).toArray).getD x undef = vs (j + x) := by
        intro x hx
        simp [Array.getD, hx]
      refine .agg _ _ (by simp only [List.size_toArray, List.length_map, List.length_range]; exact h2.symm) (fun x hx => ?_) (fun x hx => ?_)
      · rw [h2] at hx; rw [e2 x hx]; exact ho _ (hlen x hx)
      · rw [h2] at hx; rw [e2 x hx, e1 x hx]; exact hr _ (hlen x hx)
  | false =>
    rw [hag] at hs
    obtain ⟨h1, rfl⟩ := sub_one hs hd
    refine ⟨vs j, ?_, hr j h1⟩
    unfold loadVar
    rw [Sem.run_bind, run_isAgg hu, hag]
    simp only [Result.andThen_ok, Bool.false_eq_true, if_false, run_load, hc j h1]

/-- an element of a tracked row -/
theorem row_elem (I : Inv RC β U Fb h w) {r i k : Nat} {es : List D} (hg : getO h r = .row k es) (hi : i < es.length) :
    (β r).k = k ∧ (cells (es.getD i .junk)).length = k ∧ ∃ c T, w.heap[(β r).b]? = some (.cells c T (0, 0)) ∧ c.size = (β r).C ∧ i * k + k ≤ c.size ∧
      ∀ x, x < k → w.cell? ⟨(β r).b, i * k + x, none⟩ = some (c.getD (i * k + x) undef) ∧ (c.getD (i * k + x) undef).oneCell' = true ∧ Rep w (Mk β Fb h) β U (c.getD (i * k + x) undef) ((cells (es.getD i .junk)).getD x .junk) := by
  have ho := I.obj r
  rw [hg] at ho
  obtain ⟨h1, h2, h3, c, T, h4, h5, h6⟩ := ho
  have hmem : es.getD i .junk ∈ es := by rw [List.getD_eq_getElem?_getD, List.getElem?_eq_getElem hi]; exact List.getElem_mem hi
  have hle : i * k + k ≤ c.size := by
    rw [h5]
    have : (i + 1) * k ≤ es.length * k := Nat.mul_le_mul_right _ hi
    rw [Nat.add_mul, Nat.one_mul] at this
    omega
  refine ⟨h1, h3 _ hmem, c, T, h4, h5, hle, fun x hx => ⟨?_, h6 i hi x hx⟩⟩
  have hlt : i * k + x < c.size := by omega
  simp [World.cell?, h4, Array.getD, hlt]

theorem nth_lt {es : List D} {i : Nat} (hn : nth es i ≠ .junk) : i < es.length := by
  rw [nth_eq] at hn
  by_cases hi : i < es.length
  · exact hi
  · exact absurd (by simp [List.getD_eq_getElem?_getD, hi]) hn
theorem sub_junk {ag : Bool} {k j : Nat} : sub ag k j .junk = .junk := by
  cases ag with
  | true => rfl
  | false => cases j <;> rfl

theorem loadD_ok (I : Inv RC β U Fb h w) {t : TypeId} {ti : TypeInfo} {dd : TypeDesc} (hi : P.info? t = some ti) (hu : P.underlying t = some dd) {v : Value} {x d : D} {n' : Nat} {h' : Hps}
    (hv : Rep w (Mk β Fb h) β U v x) (hl : loadD (aggD dd) ti.size N h x = .ok d n' h') :
    ∃ a v', v = .pointer (some a) ∧ (loadVar t a).run P w = .ok v' w ∧ Rep w (Mk β Fb h) β U v' d ∧ h' = h := by
  cases hv with
  | @ptr _ r i j hr =>
    have hl' : loadR (aggD dd) ti.size i j N h (getO h r) = .ok d n' h' := hl
    cases hg : getO h r with
    | row k es =>
      rw [hg] at hl'
      obtain ⟨h1, rfl, rfl, h2⟩ := okD_inv hl'
      have hlt : i < es.length := nth_lt (fun hn => by rw [hn, sub_junk] at h1; exact h2 h1.symm)
      obtain ⟨h3, h4, c, T, h5, h6, h7, h8⟩ := row_elem I hg hlt
      rw [nth_eq] at h1
      obtain ⟨v', h9, h10⟩ := load_ok (P := P) (w := w) (N0 := U) (M := Mk β Fb h) (β := β) hi hu (b := (β r).b) (o := i * k) (j := j) (vs := fun x => c.getD (i * k + x) undef)
        (fun x hx => (h8 x (h4 ▸ hx)).1) (fun x hx => (h8 x (h4 ▸ hx)).2.1) (fun x hx => (h8 x (h4 ▸ hx)).2.2) h1 h2
      exact ⟨_, v', rfl, by rw [h3]; exact h9, h10, rfl⟩
    | none => rw [hg] at hl'; cases hl'
    | map es => rw [hg] at hl'; cases hl'
    | loop => rw [hg] at hl'; cases hl'
  | ip b o e j vs hM hc ho hr =>
    obtain ⟨h1, rfl, rfl, h2⟩ := okD_inv hl
    obtain ⟨v', h9, h10⟩ := load_ok (P := P) (w := w) (N0 := No) (M := Mk β Fb h) (β := β) hi hu (b := b) (o := o) (j := j) (vs := vs) hc ho hr h1 h2
    exact ⟨_, v', rfl, h9, h10.adv (Adv.refl β U h w) (Sub.no _) _ (Sub.no _), rfl⟩
  | _ => cases hl

/-! ### new blocks -/
theorem solid_of_box {n k : Nat} {h h' : Hps} {d x : D} {n' : Nat} (e : boxD n h k d = .ok x n' h') : solid d = true ∧ (cells d).length = k ∧ x = .ptr n 0 0 ∧ n' = n ∧ h' = (n, .row k [d]) :: h := by
  have key : ∀ y : D, solid y = true → ifR (Nat.beq k (lenL (cells y))) (.ok (.ptr n 0 0) n ((n, .row k [y]) :: h)) = .ok x n' h' → (cells y).length = k ∧ x = .ptr n 0 0 ∧ n' = n ∧ h' = (n, .row k [y]) :: h := by
    intro y _ e
    obtain ⟨h1, h2⟩ := ifR_inv e
    rw [lenL_eq, beq_iff] at h1
    cases h2
    exact ⟨(of_decide_eq_true h1).symm, rfl, rfl, rfl⟩
  cases d <;> first | (cases e; done) | exact ⟨rfl, key _ rfl e⟩

theorem box_ok (I : Inv RC β U Fb h w) (hN : ¬ U N) {T : TypeId} {v : Value} {d : D} {k : Nat} (hv : Rep w (Mk β Fb h) β U v d) (hs : solid d = true) (hk : (cells d).length = k) :
    ∃ w' β', (newVar T v).run P w = .ok ⟨w.heap.size, 0, none⟩ w' ∧ Rep w' (Mk β' Fb ((N, .row k [d]) :: h)) β' (Ad U N) (.pointer (some ⟨w.heap.size, 0, none⟩)) (.ptr N 0 0) ∧
      Inv RC β' (Ad U N) Fb ((N, .row k [d]) :: h) w' ∧ Adv β U h w β' (Ad U N) ((N, .row k [d]) :: h) w' := by
  obtain ⟨h1, h2⟩ := hv.cells hs
  have g : Grew w (w.alloc (.cells v.cells T)) (.cells v.cells T) := Grew.alloc _ _
  have hA := Adv.new I hN g (.row k [d]) k k
  refine ⟨w.alloc (.cells v.cells T), upd β N ⟨w.heap.size, k, k⟩, rfl, ?_, Inv.new I hN g (.row k [d]) k k ?_, hA⟩
  · have := Rep.ptr (w := w.alloc (.cells v.cells T)) (M := Mk (upd β N ⟨w.heap.size, k, k⟩) Fb ((N, .row k [d]) :: h)) (β := upd β N ⟨w.heap.size, k, k⟩) (N := Ad U N) (r := N) 0 0 (.inr rfl)
    rw [upd_same] at this
    simpa using this
  · refine ⟨rfl, by simp, fun e he => ?_, v.cells, T, g.new, h1.trans hk, fun i hi j hj => ?_⟩
    · have : e = d := by simpa using he
      rw [this]; exact hk
    · have : i = 0 := by simp at hi; omega
      subst this
      rw [Nat.zero_mul, Nat.zero_add]
      have hj' : j < (cells d).length := by omega
      exact ⟨(h2 j hj').1, (h2 j hj').2.adv hA (Sub.refl _) _ (Sub.ad _ _)⟩

/-! ### stores -/
theorem getD_splice {α : Type} (l news : List α) (u : α) (o x : Nat) (hl : o + news.length ≤ l.length) :
    (l.take o ++ news ++ l.drop (o + news.length)).getD x u = if o ≤ x ∧ x < o + news.length then news.getD (x - o) u else l.getD x u := by
  have hto : (l.take o).length = o := by simp; omega
  simp only [List.getD_eq_getElem?_getD]
  by_cases h1 : x < o
  · rw [if_neg (by omega), List.append_assoc, List.getElem?_append_left (by omega), List.getElem?_take, if_pos h1]
  · by_cases h2 : x < o + news.length
    · rw [if_pos ⟨by omega, h2⟩, List.append_assoc, List.getElem?_append_right (by omega), hto, List.getElem?_append_left (by omega)]
    · rw [if_neg (by omega), List.getElem?_append_right (by simp; omega), List.getElem?_drop]
      congr 2
      simp
      omega

/-- the world with one tracked block turned -/
theorem Adv.turn (I : Inv RC β U Fb h w) {r : Nat} (hp : getO h r ≠ .none) (x : Ob) {w' : World} (ho : w'.os = w.os) (ht : w'.tape = w.tape) (hu : w'.output = w.output) (hs : w'.heap.size = w.heap.size)
    (hk : ∀ b, b ≠ (β r).b → w'.heap[b]? = w.heap[b]?) : Adv β U h w β (Ad U N) (setO h r x) w' := by
  refine ⟨ho, ht, hu, Nat.le_of_eq hs.symm, Sub.ad _ _, fun _ _ => rfl, fun b hb hn => hk b (fun e => hn ⟨r, hp, e.symm⟩), fun b hb htk => ?_⟩
  obtain ⟨q, hq, e⟩ := htk
  by_cases hqr : q = r
  · exact ⟨q, hqr ▸ hp, e⟩
  · rw [getO_setO h r q x hp, if_neg hqr] at hq
    exact ⟨q, hq, e⟩
theorem Inv.turn (I : Inv RC β U Fb h w) {r : Nat} (hp : getO h r ≠ .none) (x : Ob) {w' : World} (ho : w'.os = w.os) (ht : w'.tape = w.tape) (hu : w'.output = w.output) (hs : w'.heap.size = w.heap.size)
    (hk : ∀ b, b ≠ (β r).b → w'.heap[b]? = w.heap[b]?) (hx : ObOk RC w' (Mk β Fb (setO h r x)) β (Ad U N) x (β r)) : Inv RC β (Ad U N) Fb (setO h r x) w' := by
  have hsub : ∀ q, getO (setO h r x) q ≠ .none → getO h q ≠ .none := by
    intro q hq
    by_cases hqr : q = r
    · exact hqr ▸ hp
    · rw [getO_setO h r q x hp, if_neg hqr] at hq; exact hq
  refine I.step RC (Adv.turn I hp x ho ht hu hs hk) (fun q hq => ?_) (fun q q' hq hq' e => I.inj q q' (hsub q hq) (hsub q' hq') e) (fun b hb htk => ?_)
  · by_cases hqr : q = r
    · subst hqr
      refine .inr ⟨.inl (I.key _ hp), by rw [hs]; exact I.lt _ hp, ?_⟩
      rw [getO_setO h q q x hp, if_pos rfl]
      exact hx
    · refine .inl ⟨by rw [getO_setO h r q x hp, if_neg hqr], hk _ (fun e => hqr (I.inj q r (hsub q hq) hp e))⟩
  · obtain ⟨q, hq, e⟩ := htk
    exact (I.frm b hb).2 ⟨q, hsub q hq, e⟩

end
end Go.Proofs.Ytdijijblccmfbaa
