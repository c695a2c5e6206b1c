/- Levels in their order, in plain Lean. No condition. -/
import Derived.Test.YtjagmfgjlfkmgaaSLB
set_option linter.unusedSimpArgs false
set_option linter.unusedVariables false
namespace Go.Proofs.Ytjagmfgjlfkmgaa
open Go Go.ChangeShapes Go.WideShapes Go.ChangeAt Go.RowKit

/-- at most, read off the lists as they are -/
def LeqP (a b : Lev) : Prop := (a.n ≤ b.n ∨ ∃ q, q ∈ b.v ∧ a.n ≤ q.2) ∧ ∀ p, p ∈ a.v → ∃ q, q ∈ b.v ∧ p.1 = q.1 ∧ p.2 ≤ q.2
theorem LeqP.refl (a : Lev) : LeqP a a := ⟨.inl (Int.le_refl _), fun p hp => ⟨p, hp, rfl, Int.le_refl _⟩⟩
theorem LeqP.trans {a b c : Lev} (h1 : LeqP a b) (h2 : LeqP b c) : LeqP a c := by
  refine ⟨?_, fun p hp => ?_⟩
  · rcases h1.1 with h | ⟨q, hq, h⟩
    · rcases h2.1 with h' | ⟨q, hq, h'⟩
      · exact .inl (by omega)
      · exact .inr ⟨q, hq, by omega⟩
    · obtain ⟨r, hr, e1, e2⟩ := h2.2 q hq
      exact .inr ⟨r, hr, by omega⟩
  · obtain ⟨q, hq, e1, e2⟩ := h1.2 p hp
    obtain ⟨r, hr, e3, e4⟩ := h2.2 q hq
    exact ⟨r, hr, by omega, by omega⟩
theorem Nf.dom {vs l : List LV} (h : Nf vs l) : ∀ p, p ∈ vs → ∃ q, q ∈ l ∧ p.1 = q.1 ∧ p.2 ≤ q.2 := fun p hp => by
  obtain ⟨q, h1, h2, h3⟩ := h.cov p hp
  exact ⟨q, h1, h2.symm, h3⟩
theorem leq_norm1 (a : Lev) (hv : 0 ≤ a.n) : LeqP a a.norm := by
  refine ⟨?_, (nfL_nf a.v).dom⟩
  by_cases hz : ∃ q, q ∈ a.norm.v ∧ a.n ≤ q.2
  · exact .inr hz
  · left
    show a.n ≤ zn a.n (nfL a.v)
    unfold zn
    rw [if_neg]
    · exact Int.le_refl _
    · intro h
      obtain ⟨q, hq, h⟩ := List.any_eq_true.1 h
      exact hz ⟨q, hq, of_decide_eq_true h⟩
theorem leq_norm2 (a : Lev) (hv : 0 ≤ a.n) : LeqP a.norm a := by
  refine ⟨.inl ?_, fun p hp => ⟨p, (nfL_nf a.v).sub p hp, rfl, Int.le_refl _⟩⟩
  show zn a.n (nfL a.v) ≤ a.n
  unfold zn
  split <;> omega
theorem zn_pos {n : Int} {v : List LV} (h : 0 ≤ n) : 0 ≤ zn n v := by unfold zn; split <;> omega
theorem leq_join1 {a b : Lev} (ha : Srt a.v) (hb : Srt b.v) : LeqP a (a.join b) := by
  refine ⟨.inl (Int.le_max_left _ _), fun p hp => ?_⟩
  exact (merge_nf ha hb).dom p (List.mem_append_left _ hp)
theorem leq_join2 {a b : Lev} (ha : Srt a.v) (hb : Srt b.v) : LeqP b (a.join b) := by
  refine ⟨.inl (Int.le_max_right _ _), fun p hp => ?_⟩
  exact (merge_nf ha hb).dom p (List.mem_append_right _ hp)
theorem join_leq {a b c : Lev} (ha : Srt a.v) (hb : Srt b.v) (h1 : LeqP a c) (h2 : LeqP b c) : LeqP (a.join b) c := by
  refine ⟨?_, fun p hp => ?_⟩
  · rcases Int.le_total a.n b.n with h | h
    · have : (a.join b).n = b.n := Int.max_eq_right h
      rw [this]; exact h2.1
    · have : (a.join b).n = a.n := Int.max_eq_left h
      rw [this]; exact h1.1
  · rcases List.mem_append.1 ((merge_nf ha hb).sub p hp) with hp | hp
    · exact h1.2 p hp
    · exact h2.2 p hp
theorem told_right {l : Lev} (h : l.told.2 = 0) : l.told.1 = l.norm ∧ l.norm.right = true := by
  unfold Lev.told at h ⊢
  split at h
  · rename_i hr; rw [if_pos hr]; exact ⟨rfl, hr⟩
  · exact absurd h (by decide)

end Go.Proofs.Ytjagmfgjlfkmgaa
