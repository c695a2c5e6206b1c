/- What the program's map makes of a term, as plain trees. No condition. -/
import Derived.Test.YtdijijblccmfbaaYTMB
set_option linter.unusedSimpArgs false
set_option linter.unusedVariables false
namespace Go.Proofs.Ytdijijblccmfbaa
open Go

def mapI (F : Trm → Int → Trm) (f : Int) : Nat → List Trm → Int → List Trm
  | _,[],_ => []
  | i,k :: t,d => F k (undr f i d) :: mapI F f (i + 1) t d
def tidyT (t : Trm) (ks : List Trm) : Trm := .mk t.form (if t.form = 1 ∨ t.form = 11 then t.n else 0) (if t.form = 3 ∨ t.form = 4 ∨ t.form = 5 then t.hid else false) (if t.form = 10 then t.name else []) (if t.form = 2 ∨ t.form = 10 then t.levels else []) ks
theorem bare_abs (t : Tm) (ks : List Tm) : (bareT t ks).abs = tidyT t.abs (ks.map Tm.abs) := by
  unfold tidyT
  rw [abs_form,abs_n,abs_hid,abs_name,abs_levels,abs_eq]
  have e : ((if t.form = 2 ∨ t.form = 10 then Sl.app (t.levels.el.map cloneL) else Sl.app []).el.map SLev.lev) = (if t.form = 2 ∨ t.form = 10 then t.levels.el.map SLev.lev else []) := by
    split
    · rw [app_el,List.map_map]
      exact List.map_congr_left (fun x _ => cloneL_lev x)
    · rfl
  rw [← e]
  rfl
theorem clean_tidy (t : Trm) : cleanT t = tidyT t (t.kids.map cleanT) := by
  obtain ⟨f,n,h,nm,ls,ks⟩ := t
  rw [clean_eq]; rfl
theorem leaf_tm {t : Tm} (h : leafT t.abs = true) : (t.form = 1 → t.kids.el = []) ∧ ∀ k,k ∈ t.kids.el → leafT k.abs = true := by
  rw [abs_eq] at h
  obtain ⟨h1,h2⟩ := (leaf_eq _ _ _ _ _ _).1 h
  exact ⟨fun e => by have := h1 e; simpa using this,fun k hk => h2 _ (List.mem_map.2 ⟨k,hk,rfl⟩)⟩
theorem run_val {g : Does} {M : Int} (hS : Steady g M) (F : Trm → Int → Trm) (h1 : ∀ t d L x,leafT t.abs = true → g t d L = some x → 0 ≤ x.2 → x.1.abs = F t.abs d) (h2 : ∀ t d L,leafT t.abs = true → g t d L = none → F t.abs d = tidyT t.abs (mapI F t.form 0 t.abs.kids d)) :
    ∀ t : Tm,leafT t.abs = true → ∀ d L,0 ≤ (runM g t d L).2 → (runM g t d L).1.abs = F t.abs d := by
  refine Tm.ind ?_
  intro t ih hl d L h0
  have hk := (leaf_tm hl).2
  rw [runM_eq] at h0 ⊢
  by_cases hL : L - 1 < 0
  · rw [if_pos hL] at h0
    have : 0 ≤ L - 1 := h0
    omega
  · rw [if_neg hL] at h0 ⊢
    cases e : g t d (L - 1) with
    | some x =>
      rw [e] at h0
      exact h1 t d (L - 1) x hl e h0
    | none =>
      rw [e] at h0
      rw [h2 t d (L - 1) hl e]
      show (bareT t (runMs g t.form 0 t.kids.el d (L - 1)).1).abs = _
      rw [bare_abs]
      congr 1
      rw [abs_kids]
      have key : ∀ ks : List Tm,(∀ k,k ∈ ks → k ∈ t.kids.el) → ∀ (i : Nat) (L : Int),0 ≤ (runMs g t.form i ks d L).2 → (runMs g t.form i ks d L).1.map Tm.abs = mapI F t.form i (ks.map Tm.abs) d := by
        intro ks
        induction ks with
        | nil => intro _ i L _; rw [runMs_nil]; rfl
        | cons k ks ihk =>
          intro hks i L h0
          rw [runMs_cons] at h0 ⊢
          have h0' : 0 ≤ (runMs g t.form (i + 1) ks d (runM g k (undr t.form i d) L).2).2 := h0
          have := (runMs_low hS t.form d ks (i + 1) (runM g k (undr t.form i d) L).2).2
          show (runM g k (undr t.form i d) L).1.abs :: (runMs g t.form (i + 1) ks d (runM g k (undr t.form i d) L).2).1.map Tm.abs = F k.abs (undr t.form i d) :: mapI F t.form (i + 1) (ks.map Tm.abs) d
          rw [ih k (hks k (by simp)) (hk k (hks k (by simp))) _ _ (by omega),ihk (fun x hx => hks x (by simp [hx])) (i + 1) _ h0']
      exact key t.kids.el (fun _ h => h) 0 (L - 1) h0
theorem mapI_clean (f : Int) : ∀ (ks : List Trm) (i : Nat) (d : Int),mapI (fun t _ => cleanT t) f i ks d = ks.map cleanT
  | [],_,_ => rfl
  | k :: t,i,d => by rw [mapI,mapI_clean f t]; rfl
theorem copy_val (t : Tm) (hl : leafT t.abs = true) (d L : Int) (h : 0 ≤ (runM gC t d L).2) : (runM gC t d L).1.abs = cleanT t.abs :=
  run_val steadyC (fun t _ => cleanT t) (fun t d L x _ h => by cases h) (fun t d L _ _ => by rw [mapI_clean]; exact clean_tidy _) t hl d L h
def fewT (t : Trm) : Bool := allT (fun t => decide (t.levels.length ≤ 1000000000)) t
theorem few_eq (t : Trm) : fewT t = true ↔ t.levels.length ≤ 1000000000 ∧ ∀ k,k ∈ t.kids → fewT k = true := by
  show allT _ t = true ↔ _
  rw [allT_eq,allTs_eq,Bool.and_eq_true,decide_eq_true_iff,List.all_eq_true]
  rfl
theorem kidsN_le (f : Int) : kidsN f ≤ 3 := by
  unfold kidsN
  repeat' split
  all_goals omega
theorem slim_of : ∀ t : Trm,formedT t = true → fewT t = true → slimT t = true := by
  refine Trm.ind ?_
  intro t ih hf hw
  rw [formedT_eq,Bool.and_eq_true,List.all_eq_true] at hf
  obtain ⟨w1,w2⟩ := (few_eq t).1 hw
  have hl := part_len hf.1
  have h3 := kidsN_le t.form
  rw [slim_eq,Bool.and_eq_true,List.all_eq_true]
  refine ⟨?_,fun k hk => ih k hk (hf.2 k hk) (w2 k hk)⟩
  have hp := hf.1
  unfold partOk at hp
  rw [Bool.and_eq_true] at hp
  have hc : ∀ l : List Lev,l.all Lev.canon = true → (l.all fun x => decide (x.v.length ≤ 1000000000)) = true := fun l h => by
    rw [List.all_eq_true] at h ⊢
    intro x hx
    have := h x hx
    unfold Lev.canon at this
    rw [Bool.and_eq_true] at this
    have := (right_iff.1 this.1).2.1
    exact decide_eq_true (by omega)
  rw [decide_eq_true (show t.kids.length ≤ 1000000 by omega),Bool.true_and]
  by_cases e1 : t.form = 1
  · rw [if_pos (.inl e1)] at hp
    have := of_decide_eq_true hp.2
    rw [e1]
    simp
    omega
  · rw [decide_eq_false e1]
    by_cases e2 : t.form = 2
    · rw [if_neg (by omega),if_neg (by omega),if_pos e2,Bool.and_eq_true] at hp
      simp only [hc _ hp.2.2,w1]
      simp
    · by_cases e10 : t.form = 10
      · rw [if_neg (by omega),if_neg (by omega),if_neg e2,if_pos e10,Bool.and_eq_true] at hp
        simp only [hc _ hp.2.2,w1]
        simp
      · rw [decide_eq_false (show ¬ (t.form = 2 ∨ t.form = 10) by omega)]
        rfl
end Go.Proofs.Ytdijijblccmfbaa
