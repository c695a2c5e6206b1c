/- Cleaned terms, in plain Lean. No condition. -/
import Derived.Test.YtdijijblccmfbaaTC
set_option linter.unusedSimpArgs false
set_option linter.unusedVariables false
namespace Go.Proofs.Ytdijijblccmfbaa
open Go

theorem cleanTs_eq (l : List Trm) : cleanTs l = l.map cleanT := by
  induction l with
  | nil => rw [cleanTs]; rfl
  | cons k t ih => rw [cleanTs,ih]; rfl
theorem clean_eq (f n : Int) (h : Bool) (nm : List Nat) (ls : List Lev) (ks : List Trm) : cleanT (.mk f n h nm ls ks) = .mk f (if f = 1 ∨ f = 11 then n else 0) (if f = 3 ∨ f = 4 ∨ f = 5 then h else false) (if f = 10 then nm else []) (if f = 2 ∨ f = 10 then ls else []) (ks.map cleanT) := by rw [cleanT,cleanTs_eq]
theorem clean_form (t : Trm) : (cleanT t).form = t.form := by cases t; rw [clean_eq]; rfl
theorem clean_kids (t : Trm) : (cleanT t).kids = t.kids.map cleanT := by cases t; rw [clean_eq]; rfl
theorem clean_clean : ∀ t : Trm,cleanT (cleanT t) = cleanT t := by
  refine Trm.ind ?_
  intro t ih
  obtain ⟨f,n,h,nm,ls,ks⟩ := t
  rw [clean_eq,clean_eq,List.map_map]
  have : ks.map (cleanT ∘ cleanT) = ks.map cleanT := List.map_congr_left fun k hk => ih k hk
  rw [this]
  congr 1 <;> split <;> rfl
theorem clean_size : ∀ t : Trm,sizeT (cleanT t) = sizeT t := by
  refine Trm.ind ?_
  intro t ih
  rw [sizeT_eq,sizeT_eq,clean_kids]
  congr 1
  have key : ∀ l : List Trm,(∀ k,k ∈ l → k ∈ t.kids) → sizeTs (l.map cleanT) = sizeTs l := by
    intro l
    induction l with
    | nil => intro _; rfl
    | cons k l ihl => intro hm; rw [List.map_cons,sizeTs_cons,sizeTs_cons,ih k (hm k (by simp)),ihl (fun q hq => hm q (by simp [hq]))]
  exact key _ fun _ h => h
theorem clean_high : ∀ t : Trm,highT (cleanT t) = highT t := by
  refine Trm.ind ?_
  intro t ih
  rw [highT_eq,highT_eq,clean_kids]
  congr 1
  have key : ∀ l : List Trm,(∀ k,k ∈ l → k ∈ t.kids) → highTs (l.map cleanT) = highTs l := by
    intro l
    induction l with
    | nil => intro _; rfl
    | cons k l ihl => intro hm; rw [List.map_cons,highTs_cons,highTs_cons,ih k (hm k (by simp)),ihl (fun q hq => hm q (by simp [hq]))]
  exact key _ fun _ h => h
theorem clean_part (t : Trm) : partOk (cleanT t) = partOk t := by
  obtain ⟨f,n,h,nm,ls,ks⟩ := t
  rw [clean_eq]
  unfold partOk
  show (decide (kidsN f = ((ks.map cleanT).length : Int)) && (if f = 1 ∨ f = 11 then decide (0 ≤ (if f = 1 ∨ f = 11 then n else 0) ∧ (if f = 1 ∨ f = 11 then n else 0) ≤ 1073741824) else if f = 7 then decide ((ks.map cleanT).head?.map Trm.form = some 6) else if f = 2 then decide ((if f = 2 ∨ f = 10 then ls else []).length = 1) && (if f = 2 ∨ f = 10 then ls else []).all Lev.canon else if f = 10 then decide ((if f = 10 then nm else []) ≠ [] ∧ (if f = 10 then nm else []).length ≤ 60) && (if f = 2 ∨ f = 10 then ls else []).all Lev.canon else true)) =
    (decide (kidsN f = (ks.length : Int)) && (if f = 1 ∨ f = 11 then decide (0 ≤ n ∧ n ≤ 1073741824) else if f = 7 then decide (ks.head?.map Trm.form = some 6) else if f = 2 then decide (ls.length = 1) && ls.all Lev.canon else if f = 10 then decide (nm ≠ [] ∧ nm.length ≤ 60) && ls.all Lev.canon else true))
  rw [List.length_map]
  congr 1
  by_cases h1 : f = 1 ∨ f = 11
  · rw [if_pos h1,if_pos h1,if_pos h1]
  · rw [if_neg h1,if_neg h1]
    by_cases h2 : f = 7
    · rw [if_pos h2,if_pos h2]
      cases ks with
      | nil => rfl
      | cons k t => rw [List.map_cons,List.head?_cons,List.head?_cons,Option.map_some,Option.map_some,clean_form]
    · rw [if_neg h2,if_neg h2]
      by_cases h3 : f = 2
      · rw [if_pos h3,if_pos h3,if_pos (Or.inl h3)]
      · rw [if_neg h3,if_neg h3]
        by_cases h4 : f = 10
        · rw [if_pos h4,if_pos h4,if_pos h4,if_pos (Or.inr h4)]
        · rw [if_neg h4,if_neg h4]
theorem clean_formed : ∀ t : Trm,formedT (cleanT t) = formedT t := by
  refine Trm.ind ?_
  intro t ih
  rw [formedT_eq,formedT_eq,clean_part,clean_kids,List.all_map]
  congr 1
  have key : ∀ l : List Trm,(∀ k,k ∈ l → k ∈ t.kids) → l.all (formedT ∘ cleanT) = l.all formedT := by
    intro l
    induction l with
    | nil => intro _; rfl
    | cons k l ihl =>
      intro hm
      rw [List.all_cons,List.all_cons,ihl (fun q hq => hm q (by simp [hq])),Function.comp_apply,ih k (hm k (by simp))]
  exact key _ fun _ h => h
theorem clean_check (t : Trm) : checkT (cleanT t) = checkT t := by unfold checkT fitsT; rw [clean_size,clean_high,clean_formed]
theorem clean_ok (t : Trm) : goodT (cleanT t) = goodT t := by unfold goodT fitsT; rw [clean_size,clean_high,clean_formed]
theorem formed_leaf : ∀ t : Trm,formedT t = true → leafT t = true := by
  refine Trm.ind ?_
  intro t ih h
  rw [formedT_eq,Bool.and_eq_true,List.all_eq_true] at h
  obtain ⟨f,n,hd,nm,ls,ks⟩ := t
  refine (leaf_eq ..).2 ⟨fun hf => ?_,fun k hk => ih k hk (h.2 k hk)⟩
  have := part_len h.1
  replace this : kidsN f = (ks.length : Int) := this
  rw [hf,show kidsN 1 = 0 from rfl] at this
  exact List.length_eq_zero_iff.1 (by omega)
theorem clean_lift (b : Int) : ∀ t : Trm,∀ a : Int,cleanT (rlift b t a) = rlift b (cleanT t) a := by
  refine Trm.ind ?_
  intro t ih a
  obtain ⟨f,n,h,nm,ls,ks⟩ := t
  have key : ∀ (l : List Trm) (i : Nat),(∀ k,k ∈ l → k ∈ ks) → (rlifts b f i l a).map cleanT = rlifts b f i (l.map cleanT) a := by
    intro l
    induction l with
    | nil => intro i _; simp only [rlifts,List.map_nil]
    | cons k t iht =>
      intro i hm
      simp only [rlifts,List.map_cons]
      rw [ih k (hm k (by simp)),iht (i + 1) (fun q hq => hm q (by simp [hq]))]
  rw [clean_eq f n]
  by_cases h1 : f = 1
  · rw [if_pos (Or.inl h1)]
    by_cases h2 : a ≤ n
    · rw [rlift,if_pos ⟨h1,h2⟩,rlift,if_pos ⟨h1,h2⟩,clean_eq,if_pos (Or.inl h1)]
    · rw [rlift,if_neg (fun h => h2 h.2),rlift,if_neg (fun h => h2 h.2),clean_eq,if_pos (Or.inl h1),key ks 0 (fun _ h => h)]
  · rw [rlift,if_neg (fun h => h1 h.1),rlift,if_neg (fun h => h1 h.1),clean_eq,key ks 0 (fun _ h => h)]
theorem clean_sub (p : Int) (s : Trm) : ∀ t : Trm,∀ d : Int,cleanT (rsub p s t d) = rsub p (cleanT s) (cleanT t) d := by
  refine Trm.ind ?_
  intro t ih d
  obtain ⟨f,n,h,nm,ls,ks⟩ := t
  have key : ∀ (l : List Trm) (i : Nat),(∀ k,k ∈ l → k ∈ ks) → (rsubs p s f i l d).map cleanT = rsubs p (cleanT s) f i (l.map cleanT) d := by
    intro l
    induction l with
    | nil => intro i _; simp only [rsubs,List.map_nil]
    | cons k t iht =>
      intro i hm
      simp only [rsubs,List.map_cons]
      rw [ih k (hm k (by simp)),iht (i + 1) (fun q hq => hm q (by simp [hq]))]
  rw [clean_eq f n]
  by_cases h1 : f = 1
  · rw [if_pos (Or.inl h1),rsub,if_pos h1,rsub,if_pos h1]
    by_cases h2 : n = p + d
    · rw [if_pos h2,if_pos h2,clean_lift]
    · rw [if_neg h2,if_neg h2]
      by_cases h3 : p + d < n
      · rw [if_pos h3,if_pos h3,clean_eq,if_pos (Or.inl h1)]
      · rw [if_neg h3,if_neg h3,clean_eq,if_pos (Or.inl h1)]
  · rw [rsub,if_neg h1,rsub,if_neg h1,clean_eq,key ks 0 (fun _ h => h)]
end Go.Proofs.Ytdijijblccmfbaa
