/- Each operation, run. Third part: stores. No condition. -/
import Derived.Test.YtdijijblccmfbaaA4
set_option linter.unusedSimpArgs false
set_option linter.unusedVariables false
namespace Go.Proofs.Ytdijijblccmfbaa
open Go

theorem overwrite_eq (xs : List D) : ∀ (j : Nat) (l : List D), j + xs.length ≤ l.length → overwrite xs j l = l.take j ++ xs ++ l.drop (j + xs.length) := by
  induction xs with
  | nil => intro j l _; show l = _; simp
  | cons x xs ih =>
    intro j l hl
    show overwrite xs (Nat.succ j) (put l j x) = _
    simp only [List.length_cons] at hl
    have hj : j < l.length := by omega
    have e1 : (l.set j x).take (j + 1) = l.take j ++ [x] := by
      rw [List.take_add_one, List.take_set_of_le (Nat.le_refl _), List.getElem?_set_self hj]
      rfl
    have e2 : (l.set j x).drop (j + 1 + xs.length) = l.drop (j + 1 + xs.length) := List.drop_set_of_lt (by omega)
    rw [put_eq, ih (Nat.succ j) (l.set j x) (by simp; omega)]
    show (l.set j x).take (j + 1) ++ xs ++ (l.set j x).drop (j + 1 + xs.length) = _
    rw [e1, e2, List.append_assoc, List.append_assoc, List.append_assoc, List.length_cons, show j + 1 + xs.length = j + (xs.length + 1) from by omega]
    rfl

theorem getD_toArray {α : Type} (l : List α) (q : Nat) (u : α) : l.toArray.getD q u = l.getD q u := by simp [Array.getD_eq_getD_getElem?, List.getD_eq_getElem?_getD]
theorem getD_toList {α : Type} (a : Array α) (q : Nat) (u : α) : a.toList.getD q u = a.getD q u := by simp [Array.getD_eq_getD_getElem?, List.getD_eq_getElem?_getD]

/-- an element behind a store into it -/
theorem setS_inv {ag : Bool} {k j : Nat} {e y x : D} (hs : setS ag k j e y = x) (hx : x ≠ .junk) (hk : ag = false → k = 1) :
    solid y = true ∧ (cells y).length = k ∧ j + k ≤ (cells e).length ∧ cells x = (cells e).take j ++ cells y ++ (cells e).drop (j + k) := by
  have h1 : ∀ {j : Nat} {y : D}, set1 ag j y = x → solid y = true ∧ (cells y).length = k ∧ j = 0 ∧ x = y ∧ one y = true := by
    intro j y h
    unfold set1 at h
    have hb := boolrec_D (b := Bool.and (Bool.not ag) (Bool.and (Nat.beq j 0) (one y))) (x := y) (by rw [h]; exact hx)
    rw [hb] at h
    cases ag with
    | true => cases hb
    | false =>
      have hb2 : (Nat.beq j 0 && one y) = true := hb
      rw [Bool.and_eq_true] at hb2
      rw [beq_iff] at hb2
      refine ⟨?_, by rw [hk rfl, cells_one hb2.2]; rfl, of_decide_eq_true hb2.1, h.symm, hb2.2⟩
      cases y <;> first | rfl | cases hb2.2
  cases e with
  | agg cs =>
    have h2 : setA ag k j cs y = x := hs
    have h3 : ∀ {y : D}, one y = true → setA ag k j cs y = x → ag = false ∧ j < cs.length ∧ x = .agg (cs.set j y) := by
      intro y ho h
      have h4 : Bool.rec (motive := fun _ => D) (setA1 j cs y) .junk ag = x := by cases y <;> first | exact h | cases ho
      cases ag with
      | true => exact absurd h4.symm hx
      | false =>
        have h5 : setA1 j cs y = x := h4
        unfold setA1 at h5
        have hb := boolrec_D (b := Bool.and (one y) (Nat.blt j (lenL cs))) (x := .agg (put cs j y)) (by rw [h5]; exact hx)
        rw [hb] at h5
        rw [ho, lenL_eq, blt_iff] at hb
        rw [put_eq] at h5
        exact ⟨rfl, of_decide_eq_true hb, h5.symm⟩
    by_cases ho : one y = true
    · obtain ⟨h4, h5, rfl⟩ := h3 ho h2
      have hk1 := hk h4
      subst hk1
      refine ⟨(by cases y <;> first | rfl | cases ho), (by rw [cells_one ho]; rfl), (by show j + 1 ≤ cs.length; omega), ?_⟩
      rw [cells_one ho]
      show cs.set j y = cs.take j ++ [y] ++ cs.drop (j + 1)
      rw [List.set_eq_take_append_cons_drop, if_pos h5]
      simp
    · cases y with
      | agg xs =>
        have h4 : Bool.rec (motive := fun _ => D) .junk (setA2 k j cs xs) ag = x := h2
        cases ag with
        | false => exact absurd h4.symm hx
        | true =>
          have h5 : setA2 k j cs xs = x := h4
          unfold setA2 at h5
          have hb := boolrec_D (b := Bool.and (Nat.beq (lenL xs) k) (Nat.ble (j + k) (lenL cs))) (x := .agg (overwrite xs j cs)) (by rw [h5]; exact hx)
          rw [hb] at h5
          have hb2 : (Nat.beq (lenL xs) k && Nat.ble (j + k) (lenL cs)) = true := hb
          rw [Bool.and_eq_true, lenL_eq, lenL_eq, beq_iff, ble_iff] at hb2
          have h6 := of_decide_eq_true hb2.1
          have h7 := of_decide_eq_true hb2.2
          have h5' : D.agg (overwrite xs j cs) = x := h5
          subst h5'
          refine ⟨rfl, h6, h7, ?_⟩
          show overwrite xs j cs = cs.take j ++ xs ++ cs.drop (j + k)
          rw [overwrite_eq xs j cs (by omega), h6]
      | junk => exact absurd (by cases ag <;> rfl) (h2 ▸ hx)
      | tup vs => exact absurd (by cases ag <;> rfl) (h2 ▸ hx)
      | _ => exact absurd rfl ho
  | _ =>
    obtain ⟨h4, h5, rfl, rfl, h6⟩ := h1 hs
    refine ⟨h4, h5, ?_, ?_⟩
    · have := hk
      rw [cells_one h6] at h5
      simp at h5
      subst h5
      exact Nat.le_refl _
    · rw [cells_one h6] at h5 ⊢
      simp at h5
      subst h5
      rfl

section
variable {P : Program} {RC : Nat → Code → DCode → Prop} {Fb : Nat → Prop} {β : Nat → Bk} {U : Us} {N : Nat} {h : Hps} {w : World}

theorem mul_ne {i i' j j' kk k : Nat} (hne : i' ≠ i) (hj : j + k ≤ kk) (hj' : j' < kk) : ¬ (i * kk + j ≤ i' * kk + j' ∧ i' * kk + j' < i * kk + j + k) := by
  intro ⟨h1, h2⟩
  rcases Nat.lt_or_gt_of_ne hne with hlt | hgt
  · have : (i' + 1) * kk ≤ i * kk := Nat.mul_le_mul_right _ hlt
    rw [Nat.add_mul, Nat.one_mul] at this
    omega
  · have : (i + 1) * kk ≤ i' * kk := Nat.mul_le_mul_right _ hgt
    rw [Nat.add_mul, Nat.one_mul] at this
    omega

theorem storeD_ok (I : Inv RC β U Fb h w) {t : TypeId} {ti : TypeInfo} {dd : TypeDesc} (hi : P.info? t = some ti) (hz : aggD dd = false → ti.size = 1) {v vx : Value} {x y d : D} {n' : Nat} {h' : Hps}
    (hv : Rep w (Mk β Fb h) β U v x) (hvx : Rep w (Mk β Fb h) β U vx y) (hl : storeD (aggD dd) ti.size y N h x = .ok d n' h') :
    ∃ a w', v = .pointer (some a) ∧ (storeVar t a vx).run P w = .ok () w' ∧ d = .junk ∧ Inv RC β (Ad U N) Fb h' w' ∧ Adv β U h w β (Ad U N) h' w' := by
  cases hv with
  | @ptr _ r i j hr =>
    have hl' : storeR (aggD dd) ti.size r i j y N h (getO h r) = .ok d n' h' := hl
    cases hg : getO h r with
    | row k es =>
      rw [hg] at hl'
      have hl2 : storeS r k i es N h (setS (aggD dd) ti.size j (nth es i) y) = .ok d n' h' := hl'
      have hx : setS (aggD dd) ti.size j (nth es i) y ≠ .junk := fun hn => by rw [hn] at hl2; cases hl2
      have hl3 : ifR (Nat.blt i (lenL es)) (.ok .junk N (setO h r (.row k (put es i (setS (aggD dd) ti.size j (nth es i) y))))) = .ok d n' h' := by
        generalize setS (aggD dd) ti.size j (nth es i) y = q at hl2 hx ⊢
        cases q <;> first | exact hl2 | exact absurd rfl hx
      obtain ⟨h1, h2⟩ := ifR_inv hl3
      rw [lenL_eq, blt_iff] at h1
      have hlt := of_decide_eq_true h1
      cases h2
      rw [put_eq, nth_eq] at *
      obtain ⟨h3, h4, c, T, h5, h6, h7, h8⟩ := row_elem I hg hlt
      obtain ⟨h9, h10, h11, h12⟩ := setS_inv rfl hx hz
      obtain ⟨h13, h14⟩ := hvx.cells h9
      rw [h4] at h11
      have hp : getO h r ≠ .none := by rw [hg]; exact fun h => by cases h
      have hvl : vx.cells.toList.length = ti.size := by rw [Array.length_toList, h13, h10]
      have hone : ∀ u ∈ vx.cells.toList, u.oneCell' = true := by
        intro u hu
        obtain ⟨q, hq, rfl⟩ := List.mem_iff_getElem.1 hu
        have hq' : q < vx.cells.size := by simpa using hq
        have := (h14 q (by omega)).1
        simpa [Array.getD, hq'] using this
      have hst := run_storeCells_at P (β r).b (i * k + j) T vx.cells.toList 0 c w h5 (by rw [hvl]; omega) hone
      rw [Nat.add_zero] at hst
      have hlc : i * k + j + vx.cells.toList.length ≤ c.toList.length := by rw [hvl, Array.length_toList]; omega
      obtain ⟨nc, hnc⟩ : ∃ nc, nc = (c.toList.take (i * k + j) ++ vx.cells.toList ++ c.toList.drop (i * k + j + vx.cells.toList.length)).toArray := ⟨_, rfl⟩
      have ecell : ∀ q, nc.getD q undef = if i * k + j ≤ q ∧ q < i * k + j + ti.size then vx.cells.getD (q - (i * k + j)) undef else c.getD q undef := by
        intro q
        rw [hnc, getD_toArray, getD_splice c.toList vx.cells.toList undef (i * k + j) q hlc, getD_toList, getD_toList, hvl]
      have esize : nc.size = c.size := by
        rw [hnc, List.size_toArray]
        simp only [List.length_append, List.length_take, List.length_drop, Array.length_toList]
        rw [Array.length_toList] at hlc
        rw [Array.length_toList] at hlc
        omega
      rw [← hnc] at hst
      clear hnc
      have hA := Adv.turn (N := N) I hp (.row k (es.set i (setS (aggD dd) ti.size j (es.getD i .junk) y))) (w' := w.setRow (β r).b nc)
        rfl rfl rfl (by simp [World.setRow]) (fun b hb => setRow_other w _ b _ hb)
      refine ⟨_, w.setRow (β r).b nc, rfl, ?_, rfl, ?_, hA⟩
      · unfold storeVar
        rw [Sem.run_bind, run_sizeOf hi]
        simp only [Result.andThen_ok]
        rw [if_neg (by rw [h13, h10]; simp), h3]
        exact hst
      · refine Inv.turn I hp _ rfl rfl rfl (by simp [World.setRow]) (fun b hb => setRow_other w _ b _ hb) ?_
        have ho := I.obj r
        rw [hg] at ho
        obtain ⟨g1, g2, g3, c', T', g4, g5, g6⟩ := ho
        rw [h5] at g4
        cases g4
        refine ⟨g1, by rw [List.length_set]; exact g2, fun e he => ?_, nc, T, setRow_heap w _ c _ T _ h5, esize.trans g5, fun i' hi' j' hj' => ?_⟩
        · rcases List.mem_or_eq_of_mem_set he with he | rfl
          · exact g3 e he
          · rw [h12]
            simp only [List.length_append, List.length_take, List.length_drop, h4, h10]
            omega
        · have hi2 : i' < es.length := by rw [List.length_set] at hi'; exact hi'
          rw [ecell]
          by_cases hii : i' = i
          · subst hii
            have eel : ((es.set i' (setS (aggD dd) ti.size j (es.getD i' .junk) y)).getD i' .junk) = setS (aggD dd) ti.size j (es.getD i' .junk) y := by
              rw [List.getD_eq_getElem?_getD, List.getElem?_set_self hlt]
              rfl
            rw [eel, h12]
            have hsp := getD_splice (cells (es.getD i' .junk)) (cells y) .junk j j' (by rw [h10, h4]; exact h11)
            rw [h10] at hsp
            rw [hsp]
            by_cases hr : j ≤ j' ∧ j' < j + ti.size
            · rw [if_pos (by omega), if_pos hr, show i' * k + j' - (i' * k + j) = j' - j from by omega]
              exact ⟨(h14 (j' - j) (by omega)).1, (h14 (j' - j) (by omega)).2.adv hA (Sub.refl _) _ (Sub.ad _ _)⟩
            · rw [if_neg (by omega), if_neg hr]
              exact ⟨(g6 i' hi2 j' hj').1, (g6 i' hi2 j' hj').2.adv hA (Sub.refl _) _ (Sub.ad _ _)⟩
          · have eel : ((es.set i (setS (aggD dd) ti.size j (es.getD i .junk) y)).getD i' .junk) = es.getD i' .junk := by
              rw [List.getD_eq_getElem?_getD, List.getElem?_set_ne (fun h => hii h.symm), ← List.getD_eq_getElem?_getD]
            rw [eel, if_neg (mul_ne hii h11 hj')]
            exact ⟨(g6 i' hi2 j' hj').1, (g6 i' hi2 j' hj').2.adv hA (Sub.refl _) _ (Sub.ad _ _)⟩
    | none => rw [hg] at hl'; cases hl'
    | map es => rw [hg] at hl'; cases hl'
    | loop => rw [hg] at hl'; cases hl'
  | _ => cases hl

end
end Go.Proofs.Ytdijijblccmfbaa
