/- Each operation, run. Ninth part: append. No condition. -/
import Derived.Test.YtdijijblccmfbaaA10
set_option linter.unusedSimpArgs false
set_option linter.unusedVariables false
namespace Go.Proofs.Ytdijijblccmfbaa
open Go

section
variable {P : Program} {RC : Nat → Code → DCode → Prop} {Fb : Nat → Prop} {β : Nat → Bk} {U : Us} {N : Nat} {h : Hps} {w : World}

/-- a slice's cells, one behind the other -/
theorem SlV.flat {M : Nat → Prop} {v : Value} {k : Nat} {l : List D} (hk : 0 < k) (S : SlV w M β U v k l) (hn : l ≠ []) :
    ∃ (a : Addr) (c : Nat) (us : List Value), v = .slice (some a) l.length c ∧ l.length ≤ c ∧ us.length = l.length * k ∧ (∀ j u, us[j]? = some u → w.cell? (a.add j) = some u) ∧ (∀ u, u ∈ us → u.oneCell' = true) ∧
      (∀ e, e ∈ l → (cells e).length = k) ∧ ∀ i, i < l.length → ∀ j, j < k → Rep w M β U (us.getD (i * k + j) undef) ((cells (l.getD i .junk)).getD j .junk) := by
  rcases S with ⟨_, h1⟩ | ⟨a, c, rfl, hc, hke, _, vs, hv⟩
  · exact absurd h1 hn
  · have hdm : ∀ x, x < l.length * k → x / k < l.length ∧ x % k < k ∧ x / k * k + x % k = x := fun x hx =>
      ⟨(Nat.div_lt_iff_lt_mul hk).2 hx, Nat.mod_lt _ hk, by rw [Nat.mul_comm]; exact Nat.div_add_mod x k⟩
    refine ⟨a, c, (List.range (l.length * k)).map fun x => vs (x / k) (x % k), rfl, hc, by simp, fun j u hu => ?_, fun u hu => ?_, hke, fun i hi j hj => ?_⟩
    · rw [List.getElem?_map] at hu
      by_cases hj : j < l.length * k
      · rw [List.getElem?_range hj] at hu
        simp only [Option.map_some, Option.some.injEq] at hu
        subst hu
        obtain ⟨h1, h2, h3⟩ := hdm j hj
        have := (hv _ h1 _ h2).1
        rw [h3] at this
        exact this
      · rw [List.getElem?_eq_none (by simp; omega)] at hu
        cases hu
    · rw [List.mem_map] at hu
      obtain ⟨x, hx, rfl⟩ := hu
      rw [List.mem_range] at hx
      obtain ⟨h1, h2, _⟩ := hdm x hx
      exact (hv _ h1 _ h2).2.1
    · have hlt : i * k + j < l.length * k := by
        have : (i + 1) * k ≤ l.length * k := Nat.mul_le_mul_right _ (by omega)
        rw [Nat.add_mul, Nat.one_mul] at this
        omega
      have e1 : (i * k + j) / k = i := by rw [Nat.mul_comm, Nat.mul_add_div hk, Nat.div_eq_of_lt hj, Nat.add_zero]
      have e2 : (i * k + j) % k = j := by rw [Nat.mul_comm, Nat.mul_add_mod, Nat.mod_eq_of_lt hj]
      have : ((List.range (l.length * k)).map fun x => vs (x / k) (x % k)).getD (i * k + j) undef = vs i j := by
        rw [List.getD_eq_getElem?_getD, List.getElem?_map, List.getElem?_range hlt]
        simp [e1, e2]
      rw [this]
      exact (hv i hi j hj).2.2

theorem Grew.drewAlloc (w : World) (o : Obj) : Grew w (w.drew.alloc o) o := ⟨rfl, rfl, rfl, rfl⟩

theorem block_getD {olds news zs : List Value} {x : Nat} (hx : x < olds.length + news.length) :
    (olds.toArray ++ news.toArray ++ zs.toArray).getD x undef = if x < olds.length then olds.getD x undef else news.getD (x - olds.length) undef := by
  have : (olds.toArray ++ news.toArray ++ zs.toArray) = (olds ++ news ++ zs).toArray := by simp
  rw [this, getD_toArray]
  simp only [List.getD_eq_getElem?_getD]
  rw [List.getElem?_append_left (by rw [List.length_append]; omega)]
  split
  · rename_i h; rw [List.getElem?_append_left h]
  · rename_i h; rw [List.getElem?_append_right (by omega)]

/-- a block that append has made -/
theorem grown_ok (I : Inv RC β U Fb h w) (hN : ¬ U N) {e : TypeId} {k : Nat} (hk : 0 < k) {z : Value} (hz : z.cells.size = k) {l m : List D} {olds news : List Value} (ho : olds.length = l.length * k) (hn : news.length = m.length * k) (h1 : ∀ u, u ∈ olds → u.oneCell' = true) (h2 : ∀ u, u ∈ news → u.oneCell' = true)
    (hkl : ∀ e, e ∈ l → (cells e).length = k) (hkm : ∀ e, e ∈ m → (cells e).length = k) (hrl : ∀ i, i < l.length → ∀ j, j < k → Rep w (Mk β Fb h) β U (olds.getD (i * k + j) undef) ((cells (l.getD i .junk)).getD j .junk))
    (hrm : ∀ i, i < m.length → ∀ j, j < k → Rep w (Mk β Fb h) β U (news.getD (i * k + j) undef) ((cells (m.getD i .junk)).getD j .junk)) (cap : Nat) (hcap : l.length + m.length ≤ cap) (hcm : cap ≤ maxLen) :
    let w' := w.drew.alloc (.cells (olds.toArray ++ news.toArray ++ Builtin.zeroCells z.cells (cap - (l.length + m.length))) e)
    let β' := upd β N ⟨w.heap.size, k, cap * k⟩
    let h' := (N, Ob.row k (l ++ m)) :: h
    Rep w' (Mk β' Fb h') β' (Ad U N) (.slice (some ⟨w.heap.size, 0, none⟩) (l.length + m.length) cap) (.ms k N 0 (l.length + m.length) false) ∧ Inv RC β' (Ad U N) Fb h' w' ∧ Adv β U h w β' (Ad U N) h' w' := by
  intro w' β' h'
  have g : Grew w w' (.cells (olds.toArray ++ news.toArray ++ Builtin.zeroCells z.cells (cap - (l.length + m.length))) e (0, 0)) := Grew.drewAlloc _ _
  refine row_ok I hN g (k := k) (C := cap * k) (l := l ++ m) ?_ ?_ (fun e he => ?_) (fun i hi j hj => ?_) (l.length + m.length) cap false (by rw [List.length_append]) hcap (fun e => by cases e) (fun _ => rfl) (Nat.le_refl _) hcm
  · simp only [Array.size_append, List.size_toArray, size_zeroCells, ho, hn, hz, ← Nat.add_mul]
    congr 1
    omega
  · rw [List.length_append]; exact Nat.mul_le_mul_right _ hcap
  · rcases List.mem_append.1 he with he | he
    · exact hkl e he
    · exact hkm e he
  · rw [List.length_append] at hi
    have hb : i * k + j < olds.length + news.length := by
      rw [ho, hn, ← Nat.add_mul]
      have : (i + 1) * k ≤ (l.length + m.length) * k := Nat.mul_le_mul_right _ (by omega)
      rw [Nat.add_mul, Nat.one_mul] at this
      omega
    have hz' : Builtin.zeroCells z.cells (cap - (l.length + m.length)) = (Builtin.zeroCells z.cells (cap - (l.length + m.length))).toList.toArray := by simp
    rw [hz', block_getD hb]
    by_cases hil : i < l.length
    · have : i * k + j < olds.length := by
        rw [ho]
        have : (i + 1) * k ≤ l.length * k := Nat.mul_le_mul_right _ hil
        rw [Nat.add_mul, Nat.one_mul] at this
        omega
      rw [if_pos this, getD_append_l hil]
      refine ⟨h1 _ ?_, hrl i hil j hj⟩
      rw [List.getD_eq_getElem?_getD, List.getElem?_eq_getElem this]
      exact List.getElem_mem this
    · have : ¬ i * k + j < olds.length := by
        rw [ho]
        have : l.length * k ≤ i * k := Nat.mul_le_mul_right _ (by omega)
        omega
      have e1 : i * k + j - olds.length = (i - l.length) * k + j := by
        rw [ho, Nat.sub_mul]
        have : l.length * k ≤ i * k := Nat.mul_le_mul_right _ (by omega)
        omega
      have e2 : (l ++ m).getD i .junk = m.getD (i - l.length) .junk := by
        have := getD_append_r (l := l) (m := m) (i := i - l.length)
        rwa [show l.length + (i - l.length) = i from by omega] at this
      rw [if_neg this, e1, e2]
      have hlt : (i - l.length) * k + j < news.length := by
        rw [hn]
        have : (i - l.length + 1) * k ≤ m.length * k := Nat.mul_le_mul_right _ (by omega)
        rw [Nat.add_mul, Nat.one_mul] at this
        omega
      refine ⟨h2 _ ?_, hrm (i - l.length) (by omega) j hj⟩
      rw [List.getD_eq_getElem?_getD, List.getElem?_eq_getElem hlt]
      exact List.getElem_mem hlt

/-- an object dropped: that is always allowed -/
theorem getO_del_none {h : Hps} {r q : Nat} (hq : getO (delO h r) q ≠ .none) : q ≠ r ∧ getO (delO h r) q = getO h q := by
  rw [getO_delO] at hq ⊢
  by_cases e : q = r
  · rw [if_pos e] at hq; exact absurd rfl hq
  · rw [if_neg e]; exact ⟨e, rfl⟩
theorem Tk_del {h : Hps} {r b : Nat} (ht : Tk β (delO h r) b) : Tk β h b := by
  obtain ⟨q, hq, e⟩ := ht
  obtain ⟨_, h2⟩ := getO_del_none hq
  exact ⟨q, h2 ▸ hq, e⟩
theorem Adv.del (r : Nat) : Adv β U h w β U (delO h r) w :=
  ⟨rfl, rfl, rfl, Nat.le_refl _, Sub.refl _, fun _ _ => rfl, fun _ _ _ => rfl, fun _ _ ht => Tk_del ht⟩
theorem Inv.del (I : Inv RC β U Fb h w) (r : Nat) : Inv RC β U Fb (delO h r) w :=
  I.step RC (Adv.del r) (fun q hq => .inl ⟨(getO_del_none hq).2, rfl⟩) (fun q q' hq hq' e => I.inj q q' ((getO_del_none hq).2 ▸ hq) ((getO_del_none hq').2 ▸ hq') e) (fun b hb ht => (I.frm b hb).2 (Tk_del ht))

end
end Go.Proofs.Ytdijijblccmfbaa
