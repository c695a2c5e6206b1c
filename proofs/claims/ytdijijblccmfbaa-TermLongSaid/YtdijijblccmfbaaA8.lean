/- Each operation, run. Sixth part: slice expressions, composite literals, make. No condition. -/
import Derived.Test.YtdijijblccmfbaaA7
set_option linter.unusedSimpArgs false
set_option linter.unusedVariables false
namespace Go.Proofs.Ytdijijblccmfbaa
open Go

section
variable {P : Program} {RC : Nat → Code → DCode → Prop} {Fb : Nat → Prop} {β : Nat → Bk} {U : Us} {N : Nat} {h : Hps} {w : World}

theorem and3 {a b c : Bool} (e : Bool.and a (Bool.and b c) = true) : a = true ∧ b = true ∧ c = true := by cases a <;> cases b <;> cases c <;> first | exact ⟨rfl, rfl, rfl⟩ | cases e
theorem and2 {a b : Bool} (e : Bool.and a b = true) : a = true ∧ b = true := by cases a <;> cases b <;> first | exact ⟨rfl, rfl⟩ | cases e
theorem ble_le {a b : Nat} (e : Nat.ble a b = true) : a ≤ b := Nat.le_of_ble_eq_true e
theorem blt_lt {a b : Nat} (e : Nat.blt a b = true) : a < b := Nat.le_of_ble_eq_true e
theorem beq_eq {a b : Nat} (e : Nat.beq a b = true) : a = b := Nat.eq_of_beq_eq_true e

theorem drop_take_all {es sp : List D} {u : Nat} : ((es ++ sp).take (es.length + sp.length)).drop u = (es ++ sp).drop u := by
  rw [List.take_of_length_le (by rw [List.length_append]; exact Nat.le_refl _)]

theorem ms_cut {v : Value} {a : Addr} {k r off len c l u m : Nat} {full : Bool} (hv : Rep w (Mk β Fb h) β U v (.ms k r off len full)) (hve : v = .slice (some a) len c) (h1 : l ≤ u) (h2 : u ≤ m) (h3 : m ≤ c) (hul : u ≤ len)
    (full' : Bool) (hf' : full' = true → m = u) (hg' : full' = false → m = c ∧ full = false) (a' : Addr) (ha : a' = if m = l then a else a.add (l * k)) (hkk : k = (β r).k) :
    Rep w (Mk β Fb h) β U (.slice (some a') (u - l) (m - l)) (.ms k r (off + l) (u - l) full') := by
  cases hv with
  | ms a0 _ _ c0 _ hr ha0 hl hf hg hC hx =>
    simp only [Value.slice.injEq, Option.some.injEq] at hve
    obtain ⟨e1, _, e3⟩ := hve
    subst e1
    subst e3
    refine Rep.ms a' (off + l) (u - l) (m - l) full' hr ?_ (by omega) (fun e => by have := hf' e; omega) (fun e => ?_) ?_ (by omega)
    · by_cases hml : m = l
      · refine .inr ⟨by omega, by omega, ?_⟩
        rw [if_pos hml] at ha
        rcases ha0 with rfl | ⟨_, _, h5⟩
        · rw [ha]
        · rw [ha, h5]
      · rw [if_neg hml] at ha
        rcases ha0 with rfl | ⟨_, h5, _⟩
        · left
          rw [ha, Addr.add_lit, Nat.add_mul]
        · omega
    · obtain ⟨h5, h6⟩ := hg' e
      rw [← hg h6]
      congr 1
      omega
    · exact Nat.le_trans (Nat.mul_le_mul_right _ (by omega)) hC

theorem slice_ok {t : TypeId} {e : TypeId} {ti : TypeInfo} (hu : P.underlying t = some (.slice e)) (hi' : P.info? e = some ti) {a : Act} {env : Tr} {mm : Nat}
    (E : EnvOk w (Mk β Fb h) β U a.tmps env) (hm : mm ≤ a.tmps.size) {vx : Value} {x d : D} {n' : Nat} {h' : Hps} (hx : Rep w (Mk β Fb h) β U vx x) {lo hi mx : Option Operand}
    (hd : sliceD N h ti.size env x (lo.map (cO mm)) (hi.map (cO mm)) (mx.map (cO mm)) = .ok d n' h') :
    ∃ v, (Instr.sliceAt t vx (lo.map a.eval) (hi.map a.eval) (mx.map a.eval)).run P w = .ok v w ∧ Rep w (Mk β Fb h) β U v d ∧ h' = h := by
  cases mx with
  | none =>
    have hd' : slice2 N h ti.size env x (lo.map (cO mm)) (hi.map (cO mm)) = .ok d n' h' := hd
    cases hx with
    | nils =>
      · obtain ⟨l, hd1, hl⟩ := optN_inv (show optN env (lo.map (cO mm)) 0 (fun l => optN env (hi.map (cO mm)) 0 fun u => slN N h l u) = .ok d n' h' from hd')
        obtain ⟨u, hd2, hu'⟩ := optN_inv hd1
        obtain ⟨h1, h2⟩ := ifR_inv (show ifR (Bool.and (Nat.beq u 0) (Nat.beq l 0)) _ = _ from hd2)
        obtain ⟨h3, h4⟩ := and2 h1
        have h3 := beq_eq h3
        have h4 := beq_eq h4
        subst h3
        subst h4
        cases h2
        have hb := run_bounds2 (P := P) (w := w) (isS := true) (cap := 0) (bd_of E hm hl) (bd_of E hm hu') (Nat.le_refl _) (Nat.le_refl _)
        exact ⟨_, run_slice_of hu hi' hb, .nils, rfl⟩
    | sl a b o c k' es sp full vs ha hM hk' hcap hf hc ho hr =>
      · obtain ⟨h0, hd0⟩ := ifR_inv (show ifR (Nat.beq ti.size k') (optN env (lo.map (cO mm)) 0 fun l => optN env (hi.map (cO mm)) (lenL es) fun u => slL N h ti.size es sp full l u) = .ok d n' h' from hd')
        have h0 := beq_eq h0
        subst h0
        obtain ⟨l, hd1, hl⟩ := optN_inv hd0
        obtain ⟨u, hd2, hu'⟩ := optN_inv hd1
        obtain ⟨h1, h2⟩ := ifR_inv (show ifR (Bool.and (Nat.ble l u) (Nat.ble u (lenL es + lenL sp))) _ = _ from hd2)
        obtain ⟨h3, h4⟩ := and2 h1
        have h3 := ble_le h3
        have h4 := ble_le h4
        rw [lenL_eq] at hu'
        rw [lenL_eq, lenL_eq] at h4
        cases h2
        rw [takeL_eq, dropL_eq, dropL_eq, appL_eq, lenL_eq]
        have hb := run_bounds2 (P := P) (w := w) (isS := true) (cap := c) (bd_of E hm hl) (bd_of E hm hu') h3 (Nat.le_trans h4 hcap)
        refine ⟨_, run_slice_of hu hi' hb, ?_, rfl⟩
        have hrep : Rep w (Mk β Fb h) β U (.slice (some a) es.length c) (.sl ti.size es sp full) := Rep.sl a b o c ti.size es sp full vs ha hM hk' hcap hf hc ho hr
        rw [← drop_take_all (u := u)]
        have ea : (if c = l then some a else Option.map (fun x : Addr => x.add (l * ti.size)) (some a)) = some (if c = l then a else a.add (l * ti.size)) := by
          split <;> rfl
        rw [ea]
        refine sl_cut hrep rfl h3 (m := es.length + sp.length) h4 (Nat.le_refl _) _ (c - l) (by omega) (fun hf' => ?_) (fun h => by omega) _ ?_
        · obtain ⟨h5, h6⟩ := and2 hf'
          have h6 := beq_eq h6
          have := hf h5
          omega
        · split
          · right; exact ⟨by omega, rfl⟩
          · left; rfl
    | @ms _ r a0 off len c full hr ha0 hl0 hf hg hC hx =>
      · obtain ⟨h0, hd0⟩ := ifR_inv (show ifR (Nat.beq ti.size (β r).k) (optN env (lo.map (cO mm)) 0 fun l => optN env (hi.map (cO mm)) len fun u => slM N h ti.size r off len full l u) = .ok d n' h' from hd')
        have h0 := beq_eq h0
        obtain ⟨l, hd1, hl⟩ := optN_inv hd0
        obtain ⟨u, hd2, hu'⟩ := optN_inv hd1
        obtain ⟨h1, h2⟩ := ifR_inv (show ifR (Bool.and (Nat.ble l u) (Bool.and (Nat.ble u len) (Bool.or (Bool.not full) (Nat.beq u len)))) _ = _ from hd2)
        obtain ⟨h3, h4, h40⟩ := and3 h1
        have h3 := ble_le h3
        have h4 := ble_le h4
        cases h2
        have hb := run_bounds2 (P := P) (w := w) (isS := true) (cap := c) (bd_of E hm hl) (bd_of E hm hu') h3 (Nat.le_trans h4 hl0)
        refine ⟨_, run_slice_of hu hi' hb, ?_, rfl⟩
        have hrep : Rep w (Mk β Fb h) β U (.slice (some a0) len c) (.ms ti.size r off len full) := h0 ▸ Rep.ms a0 off len c full hr ha0 hl0 hf hg hC hx
        have ea : (if c = l then some a0 else Option.map (fun x : Addr => x.add (l * ti.size)) (some a0)) = some (if c = l then a0 else a0.add (l * ti.size)) := by split <;> rfl
        rw [ea]
        refine ms_cut hrep rfl h3 (Nat.le_trans h4 hl0) (Nat.le_refl _) h4 _ (fun hf' => ?_) (fun hf' => ⟨rfl, hf'⟩) _ rfl h0
        rw [hf'] at h40
        have h6 := beq_eq (show Nat.beq u len = true from h40)
        have := hf hf'
        omega
    | _ => cases hd'
  | some m =>
    cases hi with
    | none => cases hd
    | some hi =>
      · have hd' : slice3 N h ti.size env x (lo.map (cO mm)) (some (cO mm hi)) (some (cO mm m)) = .ok d n' h' := hd
        have bdm : ∀ {o : Operand} {q : Nat}, ((some (cO mm o)) = none ∧ q = 0) ∨ (∃ y k, some (cO mm o) = some y ∧ ev env y = .int k (.ofNat q)) → ∃ k, a.eval o = .int k (q : Int) := by
          intro o q hq
          rcases hq with ⟨hq, _⟩ | ⟨y, k, hq, hq2⟩
          · cases hq
          · simp only [Option.some.injEq] at hq
            subst hq
            have := ev_ok E hm o
            rw [hq2] at this
            exact ⟨k, this.int_inv⟩
        cases hx with
        | nils =>
          obtain ⟨l, hd1, hl⟩ := optN_inv (show optN env (lo.map (cO mm)) 0 (fun l => optN env (some (cO mm hi)) 0 fun u => optN env (some (cO mm m)) 0 fun q => slN3 N h l u q) = .ok d n' h' from hd')
          obtain ⟨u, hd2, hu'⟩ := optN_inv hd1
          obtain ⟨q, hd3, hq'⟩ := optN_inv hd2
          obtain ⟨ku, hku⟩ := bdm hu'
          obtain ⟨kq, hkq⟩ := bdm hq'
          obtain ⟨h1, h2⟩ := ifR_inv (show ifR (Bool.and (Nat.beq u 0) (Bool.and (Nat.beq l 0) (Nat.beq q 0))) _ = _ from hd3)
          obtain ⟨h3, h4, h5⟩ := and3 h1
          have h3 := beq_eq h3
          have h4 := beq_eq h4
          have h5 := beq_eq h5
          subst h3
          subst h4
          subst h5
          cases h2
          have hb := run_bounds3 (P := P) (w := w) (isS := true) (len := 0) (cap := 0) (bd_of E hm hl) hku hkq (Nat.le_refl _) (Nat.le_refl _) (Nat.le_refl _)
          exact ⟨_, run_slice_of hu hi' hb, .nils, rfl⟩
        | sl a b o c k' es sp full vs ha hM hk' hcap hf hc ho hr =>
          obtain ⟨h0, hd0⟩ := ifR_inv (show ifR (Nat.beq ti.size k') (optN env (lo.map (cO mm)) 0 fun l => optN env (some (cO mm hi)) 0 fun u => optN env (some (cO mm m)) 0 fun q => slL3 N h ti.size es sp l u q) = .ok d n' h' from hd')
          have h0 := beq_eq h0
          subst h0
          obtain ⟨l, hd1, hl⟩ := optN_inv hd0
          obtain ⟨u, hd2, hu'⟩ := optN_inv hd1
          obtain ⟨q, hd3, hq'⟩ := optN_inv hd2
          obtain ⟨ku, hku⟩ := bdm hu'
          obtain ⟨kq, hkq⟩ := bdm hq'
          obtain ⟨h1, h2⟩ := ifR_inv (show ifR (Bool.and (Nat.ble l u) (Bool.and (Nat.ble u q) (Nat.ble q (lenL es + lenL sp)))) _ = _ from hd3)
          obtain ⟨h3, h4, h5⟩ := and3 h1
          have h3 := ble_le h3
          have h4 := ble_le h4
          have h5 := ble_le h5
          rw [lenL_eq, lenL_eq] at h5
          cases h2
          rw [takeL_eq, dropL_eq, dropL_eq, appL_eq, takeL_eq]
          have hb := run_bounds3 (P := P) (w := w) (isS := true) (len := es.length) (cap := c) (bd_of E hm hl) hku hkq h3 h4 (Nat.le_trans h5 hcap)
          refine ⟨_, run_slice_of hu hi' hb, ?_, rfl⟩
          have hrep : Rep w (Mk β Fb h) β U (.slice (some a) es.length c) (.sl ti.size es sp full) := Rep.sl a b o c ti.size es sp full vs ha hM hk' hcap hf hc ho hr
          have ea : (if q = l then some a else Option.map (fun x : Addr => x.add (l * ti.size)) (some a)) = some (if q = l then a else a.add (l * ti.size)) := by
            split <;> rfl
          rw [ea]
          refine sl_cut hrep rfl h3 h4 h5 _ (q - l) (Nat.le_refl _) (fun hf' => ?_) (fun h => by omega) _ ?_
          · have h6 := beq_eq hf'
            omega
          · split
            · right; exact ⟨by omega, rfl⟩
            · left; rfl
        | @ms _ r a0 off len c full hr ha0 hl0 hf hg hC hx =>
          obtain ⟨h0, hd0⟩ := ifR_inv (show ifR (Nat.beq ti.size (β r).k) (optN env (lo.map (cO mm)) 0 fun l => optN env (some (cO mm hi)) 0 fun u => optN env (some (cO mm m)) 0 fun q => slM3 N h ti.size r off len l u q) = .ok d n' h' from hd')
          have h0 := beq_eq h0
          obtain ⟨l, hd1, hl⟩ := optN_inv hd0
          obtain ⟨u, hd2, hu'⟩ := optN_inv hd1
          obtain ⟨q, hd3, hq'⟩ := optN_inv hd2
          obtain ⟨ku, hku⟩ := bdm hu'
          obtain ⟨kq, hkq⟩ := bdm hq'
          obtain ⟨h1, h2⟩ := ifR_inv (show ifR (Bool.and (Nat.ble l u) (Bool.and (Nat.beq u q) (Nat.ble q len))) _ = _ from hd3)
          obtain ⟨h3, h4, h5⟩ := and3 h1
          have h3 := ble_le h3
          have h4 := beq_eq h4
          have h5 := ble_le h5
          subst h4
          cases h2
          have hb := run_bounds3 (P := P) (w := w) (isS := true) (len := len) (cap := c) (bd_of E hm hl) hku hkq h3 (Nat.le_refl _) (Nat.le_trans h5 hl0)
          refine ⟨_, run_slice_of hu hi' hb, ?_, rfl⟩
          have hrep : Rep w (Mk β Fb h) β U (.slice (some a0) len c) (.ms ti.size r off len full) := h0 ▸ Rep.ms a0 off len c full hr ha0 hl0 hf hg hC hx
          have ea : (if u = l then some a0 else Option.map (fun x : Addr => x.add (l * ti.size)) (some a0)) = some (if u = l then a0 else a0.add (l * ti.size)) := by split <;> rfl
          rw [ea]
          exact ms_cut hrep rfl h3 (Nat.le_refl _) (Nat.le_trans h5 hl0) h5 true (fun _ => rfl) (fun e => by cases e) _ rfl h0
        | _ => cases hd'

theorem sslice_ok {t : TypeId} (hu : P.underlying t = some .string) {a : Act} {env : Tr} {mm : Nat}
    (E : EnvOk w (Mk β Fb h) β U a.tmps env) (hm : mm ≤ a.tmps.size) {vx : Value} {x d : D} {n' : Nat} {h' : Hps} (hx : Rep w (Mk β Fb h) β U vx x) {lo hi : Option Operand}
    (hd : ssliceD N h env x (lo.map (cO mm)) (hi.map (cO mm)) = .ok d n' h') :
    ∃ v, (Instr.sliceAt t vx (lo.map a.eval) (hi.map a.eval) none).run P w = .ok v w ∧ Rep w (Mk β Fb h) β U v d ∧ h' = h := by
  cases hx with
  | str s =>
    obtain ⟨l, hd1, hl⟩ := optN_inv (show optN env (lo.map (cO mm)) 0 (fun l => optN env (hi.map (cO mm)) (lenN (sb s)) fun u => slS N h (sb s) l u) = .ok d n' h' from hd)
    obtain ⟨u, hd2, hu'⟩ := optN_inv hd1
    obtain ⟨h1, h2⟩ := ifR_inv (show ifR (Bool.and (Nat.ble u (lenN (sb s))) (Nat.ble l u)) _ = _ from hd2)
    obtain ⟨h3, h4⟩ := and2 h1
    have h3 := ble_le h3
    have h4 := ble_le h4
    rw [lenN_eq, sb_len] at h3 hu'
    cases h2
    have hb := run_bounds2 (P := P) (w := w) (isS := false) (bd_of E hm hl) (bd_of E hm hu') h4 h3
    refine ⟨.string (s.extract l u), ?_, ?_, rfl⟩
    · simp [Instr.sliceAt, Instr.slice, run_underlying hu, hb]
    · rw [takeN_eq, dropN_eq]
      have : sb (s.extract l u) = ((sb s).drop l).take (u - l) := by
        unfold sb
        rw [← List.map_drop, ← List.map_take]
        congr 1
        simp [ByteArray.data_extract, List.extract_eq_take_drop]
      rw [← this]
      exact .str _
  | _ => cases hd

end
end Go.Proofs.Ytdijijblccmfbaa
