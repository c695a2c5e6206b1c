/- What the program's map makes of a term, as plain trees. No condition. -/
import Derived.Test.YtdijijblccmfbaaTMB
set_option linter.unusedSimpArgs false
set_option linter.unusedVariables false
namespace Go.Proofs.Ytdijijblccmfbaa
open Go

def mapI (F : Trm → Int → Trm) (f : Int) : Nat → List Trm → Int → List Trm
  | _,[],_ => []
  | i,k :: t,d => F k (undr f i d) :: mapI F f (i + 1) t d
def tidyT (t : Trm) (ks : List Trm) : Trm := .mk t.form (if t.form = 1 ∨ t.form = 11 then t.n else 0) (if t.form = 3 ∨ t.form = 4 ∨ t.form = 5 then t.hid else false) (if t.form = 10 then t.name else []) (if t.form = 2 ∨ t.form = 10 then t.levels else []) ks
theorem leaf_tm {t : Tm} (h : leafT t.abs = true) : (t.form = 1 → t.kids.el = []) ∧ ∀ k,k ∈ t.kids.el → leafT k.abs = true := by
  rw [abs_eq] at h
  obtain ⟨h1,h2⟩ := (leaf_eq _ _ _ _ _ _).1 h
  exact ⟨fun e => by have := h1 e; simpa using this,fun k hk => h2 _ (List.mem_map.2 ⟨k,hk,rfl⟩)⟩
def fewT (t : Trm) : Bool := allT (fun t => decide (t.levels.length ≤ 1000000000)) t
theorem few_eq (t : Trm) : fewT t = true ↔ t.levels.length ≤ 1000000000 ∧ ∀ k,k ∈ t.kids → fewT k = true := by
  show allT _ t = true ↔ _
  rw [allT_eq,allTs_eq,Bool.and_eq_true,decide_eq_true_iff,List.all_eq_true]
  rfl
theorem kidsN_le (f : Int) : kidsN f ≤ 3 := by
  unfold kidsN
  repeat' split
  all_goals omega
theorem slim_of : ∀ t : Trm,formedT t = true → fewT t = true → slimT t = true := by
  refine Trm.ind ?_
  intro t ih hf hw
  rw [formedT_eq,Bool.and_eq_true,List.all_eq_true] at hf
  obtain ⟨w1,w2⟩ := (few_eq t).1 hw
  have hl := part_len hf.1
  have h3 := kidsN_le t.form
  rw [slim_eq,Bool.and_eq_true,List.all_eq_true]
  refine ⟨?_,fun k hk => ih k hk (hf.2 k hk) (w2 k hk)⟩
  have hp := hf.1
  unfold partOk at hp
  rw [Bool.and_eq_true] at hp
  have hc : ∀ l : List Lev,l.all Lev.canon = true → (l.all fun x => decide (x.v.length ≤ 1000000000)) = true := fun l h => by
    rw [List.all_eq_true] at h ⊢
    intro x hx
    have := h x hx
    unfold Lev.canon at this
    rw [Bool.and_eq_true] at this
    have := (right_iff.1 this.1).2.1
    exact decide_eq_true (by omega)
  rw [decide_eq_true (show t.kids.length ≤ 1000000 by omega),Bool.true_and]
  by_cases e1 : t.form = 1
  · rw [if_pos (.inl e1)] at hp
    have := of_decide_eq_true hp.2
    rw [e1]
    simp
    omega
  · rw [decide_eq_false e1]
    by_cases e2 : t.form = 2
    · rw [if_neg (by omega),if_neg (by omega),if_pos e2,Bool.and_eq_true] at hp
      simp only [hc _ hp.2.2,w1]
      simp
    · by_cases e10 : t.form = 10
      · rw [if_neg (by omega),if_neg (by omega),if_neg e2,if_pos e10,Bool.and_eq_true] at hp
        simp only [hc _ hp.2.2,w1]
        simp
      · rw [decide_eq_false (show ¬ (t.form = 2 ∨ t.form = 10) by omega)]
        rfl
end Go.Proofs.Ytdijijblccmfbaa
