/- What the program's map makes of a term, as plain trees. No condition. -/
import Derived.Test.YtdijijblccmfbaaTMB
set_option linter.unusedSimpArgs false
set_option linter.unusedVariables false
namespace Go.Proofs.Ytdijijblccmfbaa
open Go

def mapI (F : Trm → Int → Trm) (f : Int) : Nat → List Trm → Int → List Trm
  | _,[],_ => []
  | i,k :: t,d => F k (undr f i d) :: mapI F f (i + 1) t d
def tidyT (t : Trm) (ks : List Trm) : Trm := .mk t.form (if t.form = 1 ∨ t.form = 11 then t.n else 0) (if t.form = 3 ∨ t.form = 4 ∨ t.form = 5 then t.hid else false) (if t.form = 10 then t.name else []) (if t.form = 2 ∨ t.form = 10 then t.levels else []) ks
theorem bare_abs (t : Tm) (ks : List Tm) : (bareT t ks).abs = tidyT t.abs (ks.map Tm.abs) := by
  unfold tidyT
  rw [abs_form,abs_n,abs_hid,abs_name,abs_levels,abs_eq]
  have e : ((if t.form = 2 ∨ t.form = 10 then Sl.app (t.levels.el.map cloneL) else Sl.app []).el.map SLev.lev) = (if t.form = 2 ∨ t.form = 10 then t.levels.el.map SLev.lev else []) := by
    split
    · rw [app_el,List.map_map]
      exact List.map_congr_left (fun x _ => cloneL_lev x)
    · rfl
  rw [← e]
  rfl
theorem clean_tidy (t : Trm) : cleanT t = tidyT t (t.kids.map cleanT) := by
  obtain ⟨f,n,h,nm,ls,ks⟩ := t
  rw [clean_eq]; rfl
theorem leaf_tm {t : Tm} (h : leafT t.abs = true) : (t.form = 1 → t.kids.el = []) ∧ ∀ k,k ∈ t.kids.el → leafT k.abs = true := by
  rw [abs_eq] at h
  obtain ⟨h1,h2⟩ := (leaf_eq _ _ _ _ _ _).1 h
  exact ⟨fun e => by have := h1 e; simpa using this,fun k hk => h2 _ (List.mem_map.2 ⟨k,hk,rfl⟩)⟩
theorem run_val {g : Does} {M : Int} (hS : Steady g M) (F : Trm → Int → Trm) (h1 : ∀ t d L x,leafT t.abs = true → g t d L = some x → 0 ≤ x.2 → x.1.abs = F t.abs d) (h2 : ∀ t d L,leafT t.abs = true → g t d L = none → F t.abs d = tidyT t.abs (mapI F t.form 0 t.abs.kids d)) :
    ∀ t : Tm,leafT t.abs = true → ∀ d L,0 ≤ (runM g t d L).2 → (runM g t d L).1.abs = F t.abs d := by
  refine Tm.ind ?_
  intro t ih hl d L h0
  have hk := (leaf_tm hl).2
  rw [runM_eq] at h0 ⊢
  by_cases hL : L - 1 < 0
  · rw [if_pos hL] at h0
    have : 0 ≤ L - 1 := h0
    omega
  · rw [if_neg hL] at h0 ⊢
    cases e : g t d (L - 1) with
    | some x =>
      rw [e] at h0
      exact h1 t d (L - 1) x hl e h0
    | none =>
      rw [e] at h0
      rw [h2 t d (L - 1) hl e]
      show (bareT t (runMs g t.form 0 t.kids.el d (L - 1)).1).abs = _
      rw [bare_abs]
      congr 1
      rw [abs_kids]
      have key : ∀ ks : List Tm,(∀ k,k ∈ ks → k ∈ t.kids.el) → ∀ (i : Nat) (L : Int),0 ≤ (runMs g t.form i ks d L).2 → (runMs g t.form i ks d L).1.map Tm.abs = mapI F t.form i (ks.map Tm.abs) d := by
        intro ks
        induction ks with
        | nil => intro _ i L _; rw [runMs_nil]; rfl
        | cons k ks ihk =>
          intro hks i L h0
          rw [runMs_cons] at h0 ⊢
          have h0' : 0 ≤ (runMs g t.form (i + 1) ks d (runM g k (undr t.form i d) L).2).2 := h0
          have := (runMs_low hS t.form d ks (i + 1) (runM g k (undr t.form i d) L).2).2
          show (runM g k (undr t.form i d) L).1.abs :: (runMs g t.form (i + 1) ks d (runM g k (undr t.form i d) L).2).1.map Tm.abs = F k.abs (undr t.form i d) :: mapI F t.form (i + 1) (ks.map Tm.abs) d
          rw [ih k (hks k (by simp)) (hk k (hks k (by simp))) _ _ (by omega),ihk (fun x hx => hks x (by simp [hx])) (i + 1) _ h0']
      exact key t.kids.el (fun _ h => h) 0 (L - 1) h0
theorem mapI_clean (f : Int) : ∀ (ks : List Trm) (i : Nat) (d : Int),mapI (fun t _ => cleanT t) f i ks d = ks.map cleanT
  | [],_,_ => rfl
  | k :: t,i,d => by rw [mapI,mapI_clean f t]; rfl
theorem mapI_lift (a b f : Int) : ∀ (ks : List Trm) (i : Nat) (d : Int),mapI (fun t d => rlift b (cleanT t) (a + d)) f i ks d = rlifts b f i (ks.map cleanT) (a + d)
  | [],_,_ => by rw [List.map_nil,rlifts]; rfl
  | k :: t,i,d => by
    have e : undr f i (a + d) = a + undr f i d := by rw [Int.add_comm,undr_add,Int.add_comm]
    rw [mapI,mapI_lift a b f t,List.map_cons,rlifts,e]
theorem mapI_sub (p f : Int) (s : Trm) : ∀ (ks : List Trm) (i : Nat) (d : Int),mapI (fun t d => rsub p (cleanT s) (cleanT t) d) f i ks d = rsubs p (cleanT s) f i (ks.map cleanT) d
  | [],_,_ => by rw [List.map_nil,rsubs]; rfl
  | k :: t,i,d => by rw [mapI,mapI_sub p f s t,List.map_cons,rsubs]
theorem copy_val (t : Tm) (hl : leafT t.abs = true) (d L : Int) (h : 0 ≤ (runM gC t d L).2) : (runM gC t d L).1.abs = cleanT t.abs :=
  run_val steadyC (fun t _ => cleanT t) (fun t d L x _ h => by cases h) (fun t d L _ _ => by rw [mapI_clean]; exact clean_tidy _) t hl d L h
theorem lift_val (a b : Int) (t : Tm) (hl : leafT t.abs = true) (d L : Int) (h : 0 ≤ (runM (gL a b) t d L).2) : (runM (gL a b) t d L).1.abs = rlift b (cleanT t.abs) (a + d) :=
  run_val (steadyL a b) (fun t d => rlift b (cleanT t) (a + d)) (fun t d L x hl h _ => by
    unfold gL at h
    by_cases e : t.form = 1 ∧ a + d ≤ t.n
    · rw [if_pos e] at h
      cases h
      have hk := (leaf_tm hl).1 e.1
      rw [abs_eq t,clean_eq,rlift,hk,if_pos ⟨e.1,by rw [if_pos (.inl e.1)]; exact e.2⟩,e.1]
      rfl
    · rw [if_neg e] at h; cases h) (fun t d L hl h => by
    unfold gL at h
    by_cases e : t.form = 1 ∧ a + d ≤ t.n
    · rw [if_pos e] at h; cases h
    · rw [mapI_lift]
      rw [abs_eq t,clean_eq,rlift,if_neg (fun hh => e ⟨hh.1,by have := hh.2; rw [if_pos (.inl hh.1)] at this; exact this⟩)]
      rfl) t hl d L h
theorem sub_val (p : Int) (s : Tm) (hsl : leafT s.abs = true) (t : Tm) (hl : leafT t.abs = true) (d L : Int) (h : 0 ≤ (runM (gS p s) t d L).2) : (runM (gS p s) t d L).1.abs = rsub p (cleanT s.abs) (cleanT t.abs) d :=
  run_val (steadyS p s) (fun t d => rsub p (cleanT s.abs) (cleanT t) d) (fun t d L x hl h h0 => by
    unfold gS at h
    by_cases e : t.form ≠ 1 ∨ t.n < p + d
    · rw [if_pos e] at h; cases h
    · rw [if_neg e] at h
      have e1 : t.form = 1 := by omega
      have hk := (leaf_tm hl).1 e1
      rw [abs_eq t,clean_eq,rsub,hk,if_pos e1,if_pos (show t.form = 1 ∨ t.form = 11 from .inl e1),e1]
      by_cases e2 : p + d < t.n
      · rw [if_pos e2] at h
        cases h
        rw [if_neg (by omega),if_pos e2]
        rfl
      · rw [if_neg e2] at h
        cases h
        rw [if_pos (by omega),lift_val 0 d s hsl 0 L h0]
        simp) (fun t d L hl h => by
    unfold gS at h
    by_cases e : t.form ≠ 1 ∨ t.n < p + d
    · rw [mapI_sub,abs_eq t,clean_eq,rsub]
      by_cases e1 : t.form = 1
      · have hk := (leaf_tm hl).1 e1
        rw [if_pos e1,if_pos (show t.form = 1 ∨ t.form = 11 from .inl e1),if_neg (by omega),if_neg (by omega),hk]
        show Trm.mk t.form t.n _ _ _ [] = Trm.mk t.form (if t.form = 1 ∨ t.form = 11 then t.n else 0) _ _ _ (rsubs p (cleanT s.abs) t.form 0 [] d)
        rw [rsubs,if_pos (show t.form = 1 ∨ t.form = 11 from .inl e1)]
        rfl
      · rw [if_neg e1]; rfl
    · rw [if_neg e] at h
      by_cases e2 : p + d < t.n
      · rw [if_pos e2] at h; cases h
      · rw [if_neg e2] at h; cases h) t hl d L h
def fewT (t : Trm) : Bool := allT (fun t => decide (t.levels.length ≤ 1000000000)) t
theorem few_eq (t : Trm) : fewT t = true ↔ t.levels.length ≤ 1000000000 ∧ ∀ k,k ∈ t.kids → fewT k = true := by
  show allT _ t = true ↔ _
  rw [allT_eq,allTs_eq,Bool.and_eq_true,decide_eq_true_iff,List.all_eq_true]
  rfl
theorem few_clean : ∀ t : Trm,fewT t = true → fewT (cleanT t) = true := by
  refine Trm.ind ?_
  intro t ih h
  obtain ⟨h1,h2⟩ := (few_eq t).1 h
  rw [clean_tidy]
  refine (few_eq _).2 ⟨?_,fun k hk => ?_⟩
  · show (if t.form = 2 ∨ t.form = 10 then t.levels else []).length ≤ _
    split
    · exact h1
    · simp
  · obtain ⟨x,hx,rfl⟩ := List.mem_map.1 hk
    exact ih x hx (h2 x hx)
theorem rlifts_mem (b f : Int) : ∀ (ks : List Trm) (i : Nat) (a : Int) (x : Trm),x ∈ rlifts b f i ks a → ∃ k a',k ∈ ks ∧ x = rlift b k a'
  | [],_,_,x,hx => by rw [rlifts] at hx; cases hx
  | k :: t,i,a,x,hx => by
    rw [rlifts] at hx
    rcases List.mem_cons.1 hx with rfl | hx
    · exact ⟨k,_,by simp,rfl⟩
    · obtain ⟨k',a',h1,h2⟩ := rlifts_mem b f t (i + 1) a x hx
      exact ⟨k',a',by simp [h1],h2⟩
theorem rsubs_mem (p f : Int) (s : Trm) : ∀ (ks : List Trm) (i : Nat) (a : Int) (x : Trm),x ∈ rsubs p s f i ks a → ∃ k a',k ∈ ks ∧ x = rsub p s k a'
  | [],_,_,x,hx => by rw [rsubs] at hx; cases hx
  | k :: t,i,a,x,hx => by
    rw [rsubs] at hx
    rcases List.mem_cons.1 hx with rfl | hx
    · exact ⟨k,_,by simp,rfl⟩
    · obtain ⟨k',a',h1,h2⟩ := rsubs_mem p f s t (i + 1) a x hx
      exact ⟨k',a',by simp [h1],h2⟩
theorem few_lift (b : Int) : ∀ t : Trm,fewT t = true → ∀ a,fewT (rlift b t a) = true := by
  refine Trm.ind ?_
  intro t ih h a
  obtain ⟨h1,h2⟩ := (few_eq t).1 h
  obtain ⟨f,n,hd,nm,ls,ks⟩ := t
  rw [rlift]
  split
  · exact (few_eq _).2 ⟨h1,h2⟩
  · refine (few_eq _).2 ⟨h1,fun x hx => ?_⟩
    obtain ⟨k,a',hk,rfl⟩ := rlifts_mem b f ks 0 a x hx
    exact ih k hk (h2 k hk) a'
theorem few_sub (p : Int) {s : Trm} (hs : fewT s = true) : ∀ t : Trm,fewT t = true → ∀ a,fewT (rsub p s t a) = true := by
  refine Trm.ind ?_
  intro t ih h a
  obtain ⟨h1,h2⟩ := (few_eq t).1 h
  obtain ⟨f,n,hd,nm,ls,ks⟩ := t
  rw [rsub]
  split
  · split
    · exact few_lift a s hs 0
    · split
      · exact (few_eq _).2 ⟨h1,h2⟩
      · exact (few_eq _).2 ⟨h1,h2⟩
  · refine (few_eq _).2 ⟨h1,fun x hx => ?_⟩
    obtain ⟨k,a',hk,rfl⟩ := rsubs_mem p f s ks 0 a x hx
    exact ih k hk (h2 k hk) a'
theorem kidsN_le (f : Int) : kidsN f ≤ 3 := by
  unfold kidsN
  repeat' split
  all_goals omega
theorem slim_of : ∀ t : Trm,formedT t = true → fewT t = true → slimT t = true := by
  refine Trm.ind ?_
  intro t ih hf hw
  rw [formedT_eq,Bool.and_eq_true,List.all_eq_true] at hf
  obtain ⟨w1,w2⟩ := (few_eq t).1 hw
  have hl := part_len hf.1
  have h3 := kidsN_le t.form
  rw [slim_eq,Bool.and_eq_true,List.all_eq_true]
  refine ⟨?_,fun k hk => ih k hk (hf.2 k hk) (w2 k hk)⟩
  have hp := hf.1
  unfold partOk at hp
  rw [Bool.and_eq_true] at hp
  have hc : ∀ l : List Lev,l.all Lev.canon = true → (l.all fun x => decide (x.v.length ≤ 1000000000)) = true := fun l h => by
    rw [List.all_eq_true] at h ⊢
    intro x hx
    have := h x hx
    unfold Lev.canon at this
    rw [Bool.and_eq_true] at this
    have := (right_iff.1 this.1).2.1
    exact decide_eq_true (by omega)
  rw [decide_eq_true (show t.kids.length ≤ 1000000 by omega),Bool.true_and]
  by_cases e1 : t.form = 1
  · rw [if_pos (.inl e1)] at hp
    have := of_decide_eq_true hp.2
    rw [e1]
    simp
    omega
  · rw [decide_eq_false e1]
    by_cases e2 : t.form = 2
    · rw [if_neg (by omega),if_neg (by omega),if_pos e2,Bool.and_eq_true] at hp
      simp only [hc _ hp.2.2,w1]
      simp
    · by_cases e10 : t.form = 10
      · rw [if_neg (by omega),if_neg (by omega),if_neg e2,if_pos e10,Bool.and_eq_true] at hp
        simp only [hc _ hp.2.2,w1]
        simp
      · rw [decide_eq_false (show ¬ (t.form = 2 ∨ t.form = 10) by omega)]
        rfl
theorem sane_of : ∀ t : Trm,fewT t = true → slimT t = true → saneT t = true := by
  refine Trm.ind ?_
  intro t ih hw hs
  obtain ⟨w1,w2⟩ := (few_eq t).1 hw
  rw [slim_eq,Bool.and_eq_true,List.all_eq_true] at hs
  have h1 := hs.1
  rw [Bool.and_eq_true,Bool.and_eq_true,decide_eq_true_iff] at h1
  exact (sane_eq t).2 ⟨⟨by omega,by have := h1.1.1; omega⟩,fun k hk => ih k hk (w2 k hk) (hs.2 k hk)⟩
theorem sane_zero : saneT zeroT.abs = true := by decide
theorem sane_var (n : Int) : saneT (varT n).abs = true := by
  rw [sane_eq]
  refine ⟨⟨?_,?_⟩,fun k hk => by cases hk⟩ <;> exact Nat.zero_le _
theorem run_sane {g : Does} (hg : ∀ t d L x,g t d L = some x → saneT x.1.abs = true) : ∀ t : Tm,slimT t.abs = true → ∀ d L,saneT (runM g t d L).1.abs = true := by
  refine Tm.ind ?_
  intro t ih hs d L
  obtain ⟨h1,_,h3,h4⟩ := slim_tm hs
  rw [runM_eq]
  split
  · exact sane_zero
  · cases e : g t d (L - 1) with
    | some x => exact hg t d (L - 1) x e
    | none =>
      show saneT (bareT t (runMs g t.form 0 t.kids.el d (L - 1)).1).abs = true
      rw [bare_abs]
      refine (sane_eq _).2 ⟨⟨?_,?_⟩,?_⟩
      · show (if t.abs.form = 2 ∨ t.abs.form = 10 then t.abs.levels else []).length ≤ _
        rw [abs_form,abs_levels]
        split
        · rename_i hh
          have := (h3 hh).1
          rw [List.length_map]; omega
        · simp
      · show ((runMs g t.form 0 t.kids.el d (L - 1)).1.map Tm.abs).length ≤ _
        rw [List.length_map,runMs_len]; omega
      · intro k hk
        obtain ⟨x,hx,rfl⟩ := List.mem_map.1 hk
        have key : ∀ ks : List Tm,(∀ k,k ∈ ks → k ∈ t.kids.el) → ∀ (i : Nat) (L : Int),∀ x,x ∈ (runMs g t.form i ks d L).1 → saneT x.abs = true := by
          intro ks
          induction ks with
          | nil => intro _ i L x hx; rw [runMs_nil] at hx; cases hx
          | cons k ks ihk =>
            intro hks i L x hx
            rw [runMs_cons] at hx
            rcases List.mem_cons.1 hx with rfl | hx
            · exact ih k (hks k (by simp)) (h4 k (hks k (by simp))) _ _
            · exact ihk (fun x hx => hks x (by simp [hx])) _ _ x hx
        exact key t.kids.el (fun _ h => h) 0 (L - 1) x hx
theorem sane_runL (a b : Int) (t : Tm) (hs : slimT t.abs = true) (d L : Int) : saneT (runM (gL a b) t d L).1.abs = true := run_sane (fun t d L x h => by
  unfold gL at h
  split at h
  · cases h; exact sane_var _
  · cases h) t hs d L
theorem sane_runC (t : Tm) (hs : slimT t.abs = true) (d L : Int) : saneT (runM gC t d L).1.abs = true := run_sane (fun t d L x h => by cases h) t hs d L
theorem sane_runS (p : Int) (s : Tm) (hss : slimT s.abs = true) (t : Tm) (hs : slimT t.abs = true) (d L : Int) : saneT (runM (gS p s) t d L).1.abs = true := run_sane (fun t d L x h => by
  unfold gS at h
  split at h
  · cases h
  · split at h
    · cases h; exact sane_var _
    · cases h; exact sane_runL 0 d s hss 0 L) t hs d L
end Go.Proofs.Ytdijijblccmfbaa
