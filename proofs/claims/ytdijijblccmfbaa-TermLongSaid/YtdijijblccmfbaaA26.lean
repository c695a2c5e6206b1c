/- A region that leaves its order open. Third part: one step in any order. No condition. -/
import Derived.Test.YtdijijblccmfbaaA25
set_option linter.unusedSimpArgs false
set_option linter.unusedVariables false
namespace Go.Proofs.Ytdijijblccmfbaa
open Go

section
variable {P : Program} {m : Nat} {ops : Array Oper} {sd : Nat} {call : CallF} {e0 : Tr} {n0 : Nat} {h0 : Hps}

noncomputable abbrev dl (P : Program) (m : Nat) (ops : Array Oper) : List DOper := ops.toList.map (cOper P m ops)

theorem dl_get {j : Nat} {x : DOper} (hx : (dl P m ops)[j]? = some x) : ∃ o, ops[j]? = some o ∧ x = cOper P m ops o ∧ j < ops.size := by
  rw [List.getElem?_map] at hx
  cases ho : ops.toList[j]? with
  | none => rw [ho] at hx; cases hx
  | some o =>
    rw [ho] at hx
    cases hx
    have : ops[j]? = some o := by simpa using ho
    exact ⟨o, this, rfl, (Array.getElem?_eq_some_iff.1 this).1⟩

theorem un_mem {i j : Nat} {x y : DOper} (hx : (dl P m ops)[i]? = some x) (hy : (dl P m ops)[j]? = some y) (hij : i < j) (hb : ((Region.before ops).getD j 0).testBit i = false) (hi : 0 < loud (oP x)) (hj : 0 < loud (oP y)) (hs : 2 < loud (oP x) + loud (oP y)) :
    j - 1 - i ∈ (cUn P m ops).getD j [] := by
  obtain ⟨ox, hox, rfl, hil⟩ := dl_get hx
  obtain ⟨oy, hoy, rfl, hjl⟩ := dl_get hy
  have hlo : ∀ (o : Oper) (n : Nat), n < loud (oP (cOper P m ops o)) → loud (oP (cOper P m ops o)) = loud (cOp P m o) := by
    intro o n h
    unfold cOper at h ⊢
    split
    · rfl
    · rename_i hn; split at h
      · rename_i a b c d; exact absurd d (hn _ _ c)
      · simp [oP, loud] at h
  rw [hlo _ _ hi, hlo _ _ hj] at hs
  rw [hlo _ _ hi] at hi
  rw [hlo _ _ hj] at hj
  have hls : ∀ (t : Nat) (o : Oper), ops[t]? = some o → (ops.toList.map fun o => loud (cOp P m o)).getD t 0 = loud (cOp P m o) := by
    intro t o ho
    have : ops.toList[t]? = some o := by simpa using ho
    simp [List.getD_eq_getElem?_getD, this]
  have hg : (cUn P m ops).getD j [] = unOf ops (Region.before ops) (ops.toList.map fun o => loud (cOp P m o)) j ((ops.toList.map fun o => loud (cOp P m o)).getD j 0) := by
    unfold cUn
    simp [List.getD_eq_getElem?_getD, hjl]
  rw [hg]
  unfold unOf
  rw [List.mem_map]
  refine ⟨i, ?_, rfl⟩
  rw [List.mem_filter, List.mem_range]
  refine ⟨hij, ?_⟩
  rw [hls j oy hoy, hls i ox hox, hb]
  simp only [Bool.not_false, Bool.true_and, Bool.and_eq_true, decide_eq_true_eq]
  exact ⟨⟨hj, hi⟩, by omega⟩

theorem draw_pair (hD : drawOk (Region.before ops) ops (dl P m ops) = true) {i j : Nat} {x y : DOper} (hx : (dl P m ops)[i]? = some x) (hy : (dl P m ops)[j]? = some y) (hij : i < j) : ((Region.before ops).getD j 0).testBit i = true ∨ apartOp x y = true := by
  unfold drawOk at hD
  rw [Bool.and_eq_true] at hD
  obtain ⟨_, _, _, hjl⟩ := dl_get hy
  have h1 := List.all_eq_true.1 (List.all_eq_true.1 hD.1 j (List.mem_range.2 hjl)) i (List.mem_range.2 hij)
  rw [Bool.or_eq_true] at h1
  rcases h1 with h1 | h1
  · exact .inl h1
  · right
    rw [List.getD_eq_getElem?_getD, List.getD_eq_getElem?_getD, hx, hy] at h1
    exact h1

/-- a call to which all else that touches memory is bound -/
def Bar (P : Program) (m : Nat) (ops : Array Oper) (j : Nat) : Prop := (cBar P m ops).getD j false = true ∧ ∃ x, (dl P m ops)[j]? = some x ∧ notCall (oP x) = false
/-- what an operation of the region touches -/
def TT (P : Program) (m : Nat) (ops : Array Oper) (sd : Nat) (call : CallF) (e0 : Tr) (n0 : Nat) (h0 : Hps) (j q : Nat) : Prop := q ∈ tT sd call (cBar P m ops) (dl P m ops) e0 n0 h0 j ∨ Bar P m ops j

structure Sim (P : Program) (m : Nat) (ops : Array Oper) (sd : Nat) (call : CallF) (e0 : Tr) (n0 : Nat) (h0 : Hps) (S : Nat → Prop) (E : Tr) (H : Hps) : Prop where
  env : ∀ p t, t ≤ ops.size → (∀ i x, (dl P m ops)[i]? = some x → p ∈ wrP x → (S i ↔ i < t)) → get p E = get p (trj sd call (cBar P m ops) (dl P m ops) e0 n0 h0 t).1
  heap : ∀ q t, t ≤ ops.size → (∀ i x, (dl P m ops)[i]? = some x → 2 ≤ loud (oP x) → TT P m ops sd call e0 n0 h0 i q → (S i ↔ i < t)) → getO H q = getO (trj sd call (cBar P m ops) (dl P m ops) e0 n0 h0 t).2 q

/-- one more -/
def Plus (S : Nat → Prop) (j : Nat) : Nat → Prop := fun i => S i ∨ i = j

variable {S : Nat → Prop} {E : Tr} {H : Hps} {j : Nat} {x : DOper}

theorem order_lt (hS' : Dn ops (Plus S j)) {i : Nat} (hij : i < j) (hb : ((Region.before ops).getD j 0).testBit i = true) : S i := by
  rcases before_spec hS' hb (.inr rfl) with h | h
  · exact h
  · omega
theorem order_gt (hS : Dn ops S) (hj : ¬ S j) {i : Nat} (hb : ((Region.before ops).getD i 0).testBit j = true) : ¬ S i := fun h => hj (before_spec hS hb h)

theorem Sim.reads (M : Sim P m ops sd call e0 n0 h0 S E H) (hD : drawOk (Region.before ops) ops (dl P m ops) = true) (hS : Dn ops S) (hS' : Dn ops (Plus S j)) (hj : ¬ S j) (hx : (dl P m ops)[j]? = some x) {p : Po} (hp : p ∈ rdP x) :
    get p E = get p (trj sd call (cBar P m ops) (dl P m ops) e0 n0 h0 j).1 := by
  obtain ⟨_, _, _, hjl⟩ := dl_get hx
  refine M.env p j (Nat.le_of_lt hjl) (fun i y hy hw => ?_)
  rcases Nat.lt_trichotomy i j with h | h | h
  · refine ⟨fun _ => h, fun _ => ?_⟩
    rcases draw_pair hD hy hx h with hb | ha
    · exact order_lt hS' h hb
    · simp only [apartOp, Bool.and_eq_true] at ha
      exact (apartPo_spec ha.1.2 hw hp).elim
  · subst h
    exact ⟨fun hs => absurd hs hj, fun hlt => absurd hlt (Nat.lt_irrefl _)⟩
  · refine ⟨fun hs => ?_, fun hlt => by omega⟩
    rcases draw_pair hD hx hy h with hb | ha
    · exact absurd hs (order_gt hS hj hb)
    · simp only [apartOp, Bool.and_eq_true] at ha
      exact (apartPo_spec ha.2 hw hp).elim

theorem bar_loud {i : Nat} {y : DOper} (hy : (dl P m ops)[i]? = some y) (hb : Bar P m ops i) : loud (oP y) = 2 ∧ (cBar P m ops).getD i false = true ∧ notCall (oP y) = false := by
  obtain ⟨h1, x, h2, h3⟩ := hb
  rw [hy] at h2
  cases h2
  refine ⟨?_, h1, h3⟩
  cases ho : oP y <;> first | rfl | (rw [ho] at h3; cases h3)
theorem bar_bound {i k : Nat} {y z : DOper} (hy : (dl P m ops)[i]? = some y) (hz : (dl P m ops)[k]? = some z) (hb : (cBar P m ops).getD i false = true) (hl : 0 < loud (oP z)) (hne : k ≠ i) :
    (k < i → ((Region.before ops).getD i 0).testBit k = true) ∧ (i < k → ((Region.before ops).getD k 0).testBit i = true) := by
  obtain ⟨oy, hoy, rfl, hil⟩ := dl_get hy
  obtain ⟨oz, hoz, rfl, hkl⟩ := dl_get hz
  have hg : (cBar P m ops).getD i false = barOf (Region.before ops) (ops.toList.map fun o => loud (cOp P m o)) ops.size i := by
    unfold cBar
    simp [List.getD_eq_getElem?_getD, hil]
  rw [hg] at hb
  have h1 := List.all_eq_true.1 hb k (List.mem_range.2 hkl)
  have hlo : loud (oP (cOper P m ops oz)) = loud (cOp P m oz) := by
    unfold cOper at hl ⊢
    split
    · rfl
    · rename_i hn; split at hl
      · rename_i a b c d; exact absurd d (hn _ _ c)
      · simp [oP, loud] at hl
  have hls : (ops.toList.map fun o => loud (cOp P m o)).getD k 0 = loud (cOp P m oz) := by
    have : ops.toList[k]? = some oz := by simpa using hoz
    simp [List.getD_eq_getElem?_getD, this]
  rw [hls] at h1
  simp only [Bool.or_eq_true, Bool.and_eq_true, beq_iff_eq, decide_eq_true_eq] at h1
  rcases h1 with ((h1 | h1) | h1) | h1
  · exact absurd h1 hne
  · omega
  · exact ⟨fun _ => h1.2, fun h => by omega⟩
  · exact ⟨fun h => by omega, fun _ => h1.2⟩

theorem tT_wanted (hG : ∀ j y, (dl P m ops)[j]? = some y → Good sd call (cBar P m ops) (dl P m ops) (cUn P m ops) e0 n0 h0 j y) {i q : Nat} {y : DOper} (hy : (dl P m ops)[i]? = some y) (hq : q ∈ tT sd call (cBar P m ops) (dl P m ops) e0 n0 h0 i) :
    (nxt call ((cBar P m ops).getD i false) (trj sd call (cBar P m ops) (dl P m ops) e0 n0 h0 i).1 (nm sd n0 i) (trj sd call (cBar P m ops) (dl P m ops) e0 n0 h0 i).2 y).1 = true ∧ 0 < loud (oP y) := by
  have g := hG i y hy
  cases hb : (nxt call ((cBar P m ops).getD i false) (trj sd call (cBar P m ops) (dl P m ops) e0 n0 h0 i).1 (nm sd n0 i) (trj sd call (cBar P m ops) (dl P m ops) e0 n0 h0 i).2 y).1 with
  | false => rw [(g.no hb).2.2] at hq; cases hq
  | true => rw [(g.yes hb).1] at hq; exact ⟨rfl, touchR_loud hq⟩
theorem TT_loud (hG : ∀ j y, (dl P m ops)[j]? = some y → Good sd call (cBar P m ops) (dl P m ops) (cUn P m ops) e0 n0 h0 j y) {i q : Nat} {y : DOper} (hy : (dl P m ops)[i]? = some y) (hq : TT P m ops sd call e0 n0 h0 i q) : 0 < loud (oP y) := by
  rcases hq with hq | hq
  · exact (tT_wanted hG hy hq).2
  · rw [(bar_loud hy hq).1]; omega

/-- two that touch the same, one of them to change it, are bound to an order -/
theorem clash (hG : ∀ j y, (dl P m ops)[j]? = some y → Good sd call (cBar P m ops) (dl P m ops) (cUn P m ops) e0 n0 h0 j y) {i k q : Nat} {y z : DOper} (hy : (dl P m ops)[i]? = some y) (hz : (dl P m ops)[k]? = some z) (hik : i < k)
    (hq1 : TT P m ops sd call e0 n0 h0 i q) (hq2 : TT P m ops sd call e0 n0 h0 k q) (hl : 2 ≤ loud (oP y) ∨ 2 ≤ loud (oP z)) : ((Region.before ops).getD k 0).testBit i = true := by
  have l1 := TT_loud hG hy hq1
  have l2 := TT_loud hG hz hq2
  rcases hq1 with hq1 | hb
  · rcases hq2 with hq2 | hb
    · obtain ⟨_, h1⟩ := tT_wanted hG hy hq1
      obtain ⟨h2, h3⟩ := tT_wanted hG hz hq2
      cases hb : ((Region.before ops).getD k 0).testBit i with
      | true => rfl
      | false =>
        have := un_mem hy hz hik hb h1 h3 (by omega)
        exact absurd hq1 (((hG k z hz).yes h2).2.2 i hik this q hq2)
    · exact (bar_bound hz hy hb.1 l1 (by omega)).1 hik
  · exact (bar_bound hy hz hb.1 l2 (by omega)).2 hik

theorem Sim.touched (M : Sim P m ops sd call e0 n0 h0 S E H) (hG : ∀ j y, (dl P m ops)[j]? = some y → Good sd call (cBar P m ops) (dl P m ops) (cUn P m ops) e0 n0 h0 j y) (hS : Dn ops S) (hS' : Dn ops (Plus S j)) (hj : ¬ S j) (hx : (dl P m ops)[j]? = some x)
    {q : Nat} (hq : TT P m ops sd call e0 n0 h0 j q) : getO H q = getO (trj sd call (cBar P m ops) (dl P m ops) e0 n0 h0 j).2 q := by
  obtain ⟨_, _, _, hjl⟩ := dl_get hx
  refine M.heap q j (Nat.le_of_lt hjl) (fun i y hy hl hw => ?_)
  rcases Nat.lt_trichotomy i j with h | h | h
  · exact ⟨fun _ => h, fun _ => order_lt hS' h (clash hG hy hx h hw hq (.inl hl))⟩
  · subst h
    exact ⟨fun hs => absurd hs hj, fun hlt => absurd hlt (Nat.lt_irrefl _)⟩
  · exact ⟨fun hs => absurd hs (order_gt hS hj (clash hG hx hy h hq hw (.inr hl))), fun hlt => by omega⟩

/-- what does not change it leaves it -/
theorem heap_kept (hG : ∀ j y, (dl P m ops)[j]? = some y → Good sd call (cBar P m ops) (dl P m ops) (cUn P m ops) e0 n0 h0 j y) {i q : Nat} {y : DOper} (hy : (dl P m ops)[i]? = some y) (hq : ¬ (2 ≤ loud (oP y) ∧ TT P m ops sd call e0 n0 h0 i q)) :
    getO (trj sd call (cBar P m ops) (dl P m ops) e0 n0 h0 (i + 1)).2 q = getO (trj sd call (cBar P m ops) (dl P m ops) e0 n0 h0 i).2 q := by
  have g := hG i y hy
  cases hb : (nxt call ((cBar P m ops).getD i false) (trj sd call (cBar P m ops) (dl P m ops) e0 n0 h0 i).1 (nm sd n0 i) (trj sd call (cBar P m ops) (dl P m ops) e0 n0 h0 i).2 y).1 with
  | false => rw [(g.no hb).2.1]
  | true =>
    obtain ⟨h1, ⟨n1, _, h2⟩, _⟩ := g.yes hb
    by_cases hl : loud (oP y) < 2
    · rw [opP_quiet hl h2]
    · by_cases hbar : Bar P m ops i
      · exact absurd ⟨by omega, .inr hbar⟩ hq
      · have hq2 : q ∉ touchR (trj sd call (cBar P m ops) (dl P m ops) e0 n0 h0 i).1 (nm sd n0 i) (oP y) (trj sd call (cBar P m ops) (dl P m ops) e0 n0 h0 i).2 (trj sd call (cBar P m ops) (dl P m ops) e0 n0 h0 (i + 1)).2 := fun h => hq ⟨by omega, .inl (h1 ▸ h)⟩
        have hnc : (cBar P m ops).getD i false = true → notCall (oP y) = true := by
          intro e
          cases hn : notCall (oP y) with
          | true => rfl
          | false => exact absurd ⟨e, y, hy, hn⟩ hbar
        obtain ⟨_, _, _, h5⟩ := opP_frame (h' := (trj sd call (cBar P m ops) (dl P m ops) e0 n0 h0 i).2) hnc (fun _ _ => rfl) h2 (fun _ _ => rfl)
        exact (h5 q hq2).1

theorem Sim.step (M : Sim P m ops sd call e0 n0 h0 S E H) (hD : drawOk (Region.before ops) ops (dl P m ops) = true) (hG : ∀ j y, (dl P m ops)[j]? = some y → Good sd call (cBar P m ops) (dl P m ops) (cUn P m ops) e0 n0 h0 j y) (hS : Dn ops S) (hS' : Dn ops (Plus S j)) (hj : ¬ S j)
    (hx : (dl P m ops)[j]? = some x) {H' : Hps} (hin : ∀ q, TT P m ops sd call e0 n0 h0 j q → getO H' q = getO (trj sd call (cBar P m ops) (dl P m ops) e0 n0 h0 (j + 1)).2 q) (hout : ∀ q, ¬ TT P m ops sd call e0 n0 h0 j q → getO H' q = getO H q) :
    Sim P m ops sd call e0 n0 h0 (Plus S j) (putE E (dP x) (nxt call ((cBar P m ops).getD j false) (trj sd call (cBar P m ops) (dl P m ops) e0 n0 h0 j).1 (nm sd n0 j) (trj sd call (cBar P m ops) (dl P m ops) e0 n0 h0 j).2 x).2.1) H' := by
  obtain ⟨_, _, _, hjl⟩ := dl_get hx
  have hget : ∀ i, i < ops.size → ∃ y, (dl P m ops)[i]? = some y := fun i hi => by
    refine ⟨cOper P m ops ops[i], ?_⟩
    simp [hi]
  have hput : ∀ (e : Tr) (y : DOper) (d : D) (p : Po), p ∉ wrP y → get p (putE e (dP y) d) = get p e := by
    intro e y d p hp
    obtain ⟨dst, g, o⟩ := y
    cases dst with
    | none => rfl
    | some r => exact get_put_ne d p r e (fun h => hp (by simp [wrP, wrD, h]))
  have hput2 : ∀ (e : Tr) (y : DOper) (d : D) (p : Po), p ∈ wrP y → get p (putE e (dP y) d) = d := by
    intro e y d p hp
    obtain ⟨dst, g, o⟩ := y
    cases dst with
    | none => cases hp
    | some r =>
      have : p = r := by simpa [wrP, wrD] using hp
      subst this
      exact get_put_same _ _ _
  refine ⟨fun p t ht hw => ?_, fun q t ht hw => ?_⟩
  · by_cases hp : p ∈ wrP x
    · have hjt : j < t := (hw j x hx hp).1 (.inr rfl)
      rw [hput2 _ _ _ _ hp]
      have key : ∀ d, j + 1 + d ≤ t → get p (trj sd call (cBar P m ops) (dl P m ops) e0 n0 h0 (j + 1 + d)).1 = (nxt call ((cBar P m ops).getD j false) (trj sd call (cBar P m ops) (dl P m ops) e0 n0 h0 j).1 (nm sd n0 j) (trj sd call (cBar P m ops) (dl P m ops) e0 n0 h0 j).2 x).2.1 := by
        intro d
        induction d with
        | zero => intro _; rw [Nat.add_zero, (hG j x hx).env]; exact hput2 _ _ _ _ hp
        | succ d ih =>
          intro hd
          obtain ⟨y, hy⟩ := hget (j + 1 + d) (by omega)
          rw [show j + 1 + (d + 1) = (j + 1 + d) + 1 by omega, (hG _ y hy).env]
          have hpy : p ∉ wrP y := by
            intro hpy
            have hin2 : Plus S j (j + 1 + d) := (hw _ y hy hpy).2 (by omega)
            have hSi : S (j + 1 + d) := hin2.resolve_right (by omega)
            rcases draw_pair hD hx hy (by omega) with hb | ha
            · exact order_gt hS hj hb hSi
            · simp only [apartOp, Bool.and_eq_true] at ha
              exact apartPo_spec ha.1.1 hp hpy
          rw [hput _ _ _ _ hpy]
          exact ih (by omega)
      have := key (t - (j + 1)) (by omega)
      rw [show j + 1 + (t - (j + 1)) = t by omega] at this
      exact this.symm
    · rw [hput _ _ _ _ hp]
      refine M.env p t ht (fun i y hy hpy => ?_)
      have := hw i y hy hpy
      have hne : i ≠ j := by
        intro e; subst e; rw [hx] at hy; cases hy; exact hp hpy
      exact ⟨fun hs => this.1 (.inl hs), fun hlt => (this.2 hlt).resolve_right hne⟩
  · by_cases hq : 2 ≤ loud (oP x) ∧ TT P m ops sd call e0 n0 h0 j q
    · have hjt : j < t := (hw j x hx hq.1 hq.2).1 (.inr rfl)
      rw [hin q hq.2]
      have key : ∀ d, j + 1 + d ≤ t → getO (trj sd call (cBar P m ops) (dl P m ops) e0 n0 h0 (j + 1 + d)).2 q = getO (trj sd call (cBar P m ops) (dl P m ops) e0 n0 h0 (j + 1)).2 q := by
        intro d
        induction d with
        | zero => intro _; rfl
        | succ d ih =>
          intro hd
          obtain ⟨y, hy⟩ := hget (j + 1 + d) (by omega)
          rw [show j + 1 + (d + 1) = (j + 1 + d) + 1 by omega, heap_kept hG hy ?_, ih (by omega)]
          rintro ⟨hl, hqy⟩
          have hin2 : Plus S j (j + 1 + d) := (hw _ y hy hl hqy).2 (by omega)
          have hSi : S (j + 1 + d) := hin2.resolve_right (by omega)
          exact order_gt hS hj (clash hG hx hy (by omega) hq.2 hqy (.inl hq.1)) hSi
      have := key (t - (j + 1)) (by omega)
      rw [show j + 1 + (t - (j + 1)) = t by omega] at this
      exact this.symm
    · have hSt : getO H q = getO (trj sd call (cBar P m ops) (dl P m ops) e0 n0 h0 t).2 q := by
        refine M.heap q t ht (fun i y hy hl hqy => ?_)
        have := hw i y hy hl hqy
        have hne : i ≠ j := by
          intro e; subst e; rw [hx] at hy; cases hy; exact hq ⟨hl, hqy⟩
        exact ⟨fun hs => this.1 (.inl hs), fun hlt => (this.2 hlt).resolve_right hne⟩
      rw [← hSt]
      by_cases hq2 : TT P m ops sd call e0 n0 h0 j q
      · rw [hin q hq2, heap_kept hG hx hq, M.touched hG hS hS' hj hx hq2]
      · exact hout q hq2
end
end Go.Proofs.Ytdijijblccmfbaa
