/- The numbers of levels, in plain Lean; contracts. No condition. -/
import Derived.Test.YtjagmfgjlfkmgaaSLU
import Derived.Test.YtjagmfgjlfkmgaaSLX
set_option linter.unusedSimpArgs false
set_option linter.unusedVariables false
namespace Go.Proofs.Ytjagmfgjlfkmgaa
open Go Go.ChangeShapes Go.WideShapes Go.ChangeAt Go.RowKit

theorem val_le {x : Int} (r : Int → Int) : ∀ (l : List LV) (N : Int), x ≤ Lev.val ⟨N, l⟩ r ↔ x ≤ N ∨ ∃ q, q ∈ l ∧ x ≤ r q.1 + q.2
  | [], N => by simp [Lev.val]
  | p :: t, N => by
    show x ≤ Lev.val ⟨max N (r p.1 + p.2), t⟩ r ↔ _
    rw [val_le r t]
    constructor
    · rintro (h | ⟨q, hq, h⟩)
      · rcases Int.le_total N (r p.1 + p.2) with h' | h'
        · rw [Int.max_eq_right h'] at h; exact .inr ⟨p, List.mem_cons_self .., h⟩
        · rw [Int.max_eq_left h'] at h; exact .inl h
      · exact .inr ⟨q, List.mem_cons_of_mem _ hq, h⟩
    · rintro (h | ⟨q, hq, h⟩)
      · left; exact Int.le_trans h (Int.le_max_left _ _)
      · rcases List.mem_cons.1 hq with rfl | hq
        · left; exact Int.le_trans h (Int.le_max_right _ _)
        · exact .inr ⟨q, hq, h⟩
theorem val_le' {x : Int} (r : Int → Int) (l : Lev) : x ≤ l.val r ↔ x ≤ l.n ∨ ∃ q, q ∈ l.v ∧ x ≤ r q.1 + q.2 := val_le r l.v l.n
theorem int_eq {a b : Int} (h : ∀ x : Int, x ≤ a ↔ x ≤ b) : a = b := Int.le_antisymm ((h a).1 (Int.le_refl _)) ((h b).2 (Int.le_refl _))
theorem val_mono {a b : Lev} {r : Int → Int} (hr : ∀ i, 0 ≤ r i) (h : LeqP a b) : a.val r ≤ b.val r := by
  have : ∀ x, x ≤ a.val r → x ≤ b.val r := by
    intro x hx
    rw [val_le'] at hx ⊢
    rcases hx with hx | ⟨p, hp, hx⟩
    · rcases h.1 with h' | ⟨q, hq, h'⟩
      · exact .inl (by omega)
      · have := hr q.1
        exact .inr ⟨q, hq, by omega⟩
    · obtain ⟨q, hq, e1, e2⟩ := h.2 p hp
      rw [e1] at hx
      exact .inr ⟨q, hq, by omega⟩
  exact this _ (Int.le_refl _)
theorem val_norm {a : Lev} {r : Int → Int} (hr : ∀ i, 0 ≤ r i) (h : 0 ≤ a.n) : a.norm.val r = a.val r := Int.le_antisymm (val_mono hr (leq_norm2 a h)) (val_mono hr (leq_norm1 a h))
theorem val_join {a b : Lev} {r : Int → Int} (hr : ∀ i, 0 ≤ r i) (ha : Srt a.v) (hb : Srt b.v) : (a.join b).val r = max (a.val r) (b.val r) := by
  have l1 := val_mono hr (leq_join1 ha hb)
  have l2 := val_mono hr (leq_join2 ha hb)
  apply Int.le_antisymm
  · have : ∀ x, x ≤ (a.join b).val r → x ≤ max (a.val r) (b.val r) := by
      intro x hx
      rw [val_le'] at hx
      have e1 : ∀ y, y ≤ a.val r → y ≤ max (a.val r) (b.val r) := fun y h => Int.le_trans h (Int.le_max_left _ _)
      have e2 : ∀ y, y ≤ b.val r → y ≤ max (a.val r) (b.val r) := fun y h => Int.le_trans h (Int.le_max_right _ _)
      rcases hx with hx | ⟨p, hp, hx⟩
      · replace hx : x ≤ max a.n b.n := hx
        rcases Int.le_total a.n b.n with h | h
        · rw [Int.max_eq_right h] at hx; exact e2 x ((val_le' r b).2 (.inl hx))
        · rw [Int.max_eq_left h] at hx; exact e1 x ((val_le' r a).2 (.inl hx))
      · rcases List.mem_append.1 ((merge_nf ha hb).sub p hp) with hp | hp
        · exact e1 x ((val_le' r a).2 (.inr ⟨p, hp, hx⟩))
        · exact e2 x ((val_le' r b).2 (.inr ⟨p, hp, hx⟩))
    exact this _ (Int.le_refl _)
  · omega
theorem val_more {a : Lev} {k : Int} {r : Int → Int} : (a.more k).val r = a.val r + k := by
  apply int_eq
  intro x
  rw [val_le', show x ≤ a.val r + k ↔ x - k ≤ a.val r by omega, val_le']
  constructor
  · rintro (h | ⟨q, hq, h⟩)
    · left; have h : x ≤ a.n + k := h; omega
    · obtain ⟨p, hp, rfl⟩ := List.mem_map.1 hq
      have h : x ≤ r p.1 + (p.2 + k) := h
      exact .inr ⟨p, hp, by omega⟩
  · rintro (h | ⟨q, hq, h⟩)
    · left; show x ≤ a.n + k; omega
    · exact .inr ⟨addV k q, List.mem_map.2 ⟨q, hq, rfl⟩, by show x ≤ r q.1 + (q.2 + k); omega⟩
theorem max_right {a b : Lev} (h : (a.max2 b).2 = 0) : a.right = true ∧ b.right = true := by
  unfold Lev.max2 at h
  cases ha : a.right
  · rw [ha] at h; simp at h
  · cases hb : b.right
    · rw [ha, hb] at h; simp at h
    · exact ⟨rfl, rfl⟩
theorem suc_right {a : Lev} {k : Int} (h : (a.suc k).2 = 0) : a.right = true ∧ 0 ≤ k ∧ k ≤ 1000 := by
  unfold Lev.suc at h
  cases ha : a.right
  · rw [ha] at h; simp at h
  · rw [ha, if_pos rfl] at h
    by_cases h1 : k < 0
    · rw [if_pos h1] at h; exact absurd h (by decide)
    · rw [if_neg h1] at h
      by_cases h2 : 1000 < k
      · rw [if_pos h2] at h; exact absurd h (by decide)
      · exact ⟨rfl, by omega, by omega⟩
theorem eval_right {a : Lev} {v : List Int} (h : a.right = true) : a.eval v = a.val (rv v) := by unfold Lev.eval; rw [if_pos h]
theorem eval_max {a b : Lev} {v : List Int} (h : (a.max2 b).2 = 0) : (a.max2 b).1.eval v = max (a.eval v) (b.eval v) := by
  obtain ⟨ha, hb⟩ := max_right h
  have e : a.max2 b = (a.norm.join b.norm).told := by unfold Lev.max2; rw [if_pos ha, if_pos hb]
  rw [e] at h ⊢
  obtain ⟨e1, hr⟩ := told_right h
  have ha0 := (right_iff.1 ha).1.1
  have hb0 := (right_iff.1 hb).1.1
  have j0 : 0 ≤ (a.norm.join b.norm).n := Int.le_trans (zn_pos ha0 : 0 ≤ a.norm.n) (Int.le_max_left _ _)
  rw [e1, eval_right hr, eval_right ha, eval_right hb, val_norm (rv_pos v) j0, val_join (rv_pos v) (nfL_nf a.v).srt (nfL_nf b.v).srt, val_norm (rv_pos v) ha0, val_norm (rv_pos v) hb0]
theorem eval_suc {a : Lev} {k : Int} {v : List Int} (h : (a.suc k).2 = 0) : (a.suc k).1.eval v = a.eval v + k := by
  obtain ⟨ha, h1, h2⟩ := suc_right h
  have e : a.suc k = (a.norm.more k).told := by unfold Lev.suc; rw [if_pos ha, if_neg (by omega), if_neg (by omega)]
  rw [e] at h ⊢
  obtain ⟨e1, hr⟩ := told_right h
  have ha0 := (right_iff.1 ha).1.1
  have n0 : 0 ≤ a.norm.n := zn_pos ha0
  have j0 : 0 ≤ (a.norm.more k).n := by show 0 ≤ a.norm.n + k; omega
  rw [e1, eval_right hr, eval_right ha, val_norm (rv_pos v) j0, val_more, val_norm (rv_pos v) ha0]
theorem eval_low {a : Lev} {v : List Int} (hv : ∀ x, x ∈ v → x ≤ 1000000) : 0 ≤ a.eval v ∧ a.eval v ≤ 1001000 := by
  unfold Lev.eval
  split
  · rename_i h
    obtain ⟨hN, _, hV⟩ := right_iff.1 h
    refine ⟨(val_le' _ _).2 (.inl hN.1), ?_⟩
    have := (val_le' (rv v) a).1 (Int.le_refl (a.val (rv v)))
    rcases this with h | ⟨q, hq, h⟩
    · omega
    · have := hV q hq
      have hr : rv v q.1 ≤ 1000000 := by
        unfold rv
        split
        · rename_i x hx
          have := hv x (List.mem_of_getElem? hx)
          omega
        · decide
      omega
  · decide
end Go.Proofs.Ytjagmfgjlfkmgaa
