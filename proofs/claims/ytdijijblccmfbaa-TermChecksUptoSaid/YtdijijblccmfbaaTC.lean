/- Lifting and putting in, in plain Lean. No condition. -/
import Derived.Test.YtdijijblccmfbaaTA
set_option linter.unusedSimpArgs false
set_option linter.unusedVariables false
namespace Go.Proofs.Ytdijijblccmfbaa
open Go

def undr (f : Int) (i : Nat) (d : Int) : Int := if i = 1 ∧ bindsN f = true then d + 1 else d
mutual
def cleanT : Trm → Trm
  | .mk f n h nm ls ks => .mk f (if f = 1 ∨ f = 11 then n else 0) (if f = 3 ∨ f = 4 ∨ f = 5 then h else false) (if f = 10 then nm else []) (if f = 2 ∨ f = 10 then ls else []) (cleanTs ks)
def cleanTs : List Trm → List Trm
  | [] => []
  | k :: t => cleanT k :: cleanTs t
end
mutual
def rlift (b : Int) : Trm → Int → Trm
  | .mk f n h nm ls ks,a => if f = 1 ∧ a ≤ n then .mk f (n + b) h nm ls ks else .mk f n h nm ls (rlifts b f 0 ks a)
def rlifts (b f : Int) (i : Nat) : List Trm → Int → List Trm
  | [],_ => []
  | k :: t,a => rlift b k (undr f i a) :: rlifts b f (i + 1) t a
end
mutual
def rsub (p : Int) (s : Trm) : Trm → Int → Trm
  | .mk f n h nm ls ks,d => if f = 1 then (if n = p + d then rlift d s 0 else if p + d < n then .mk f (n - 1) h nm ls ks else .mk f n h nm ls ks) else .mk f n h nm ls (rsubs p s f 0 ks d)
def rsubs (p : Int) (s : Trm) (f : Int) (i : Nat) : List Trm → Int → List Trm
  | [],_ => []
  | k :: t,d => rsub p s k (undr f i d) :: rsubs p s f (i + 1) t d
end
def leafT (t : Trm) : Bool := allT (fun t => !decide (t.form = 1) || t.kids.isEmpty) t
theorem leaf_eq (f n : Int) (h : Bool) (nm : List Nat) (ls : List Lev) (ks : List Trm) : leafT (.mk f n h nm ls ks) = true ↔ (f = 1 → ks = []) ∧ ∀ k,k ∈ ks → leafT k = true := by
  unfold leafT
  rw [allT_eq,allTs_eq,Bool.and_eq_true,List.all_eq_true]
  show ((!decide (f = 1) || ks.isEmpty) = true) ∧ _ ↔ _
  refine and_congr ?_ Iff.rfl
  by_cases hf : f = 1 <;> simp [hf]
theorem undr_add (f : Int) (i : Nat) (d e : Int) : undr f i (d + e) = undr f i d + e := by unfold undr; split <;> omega
theorem undr_low (f : Int) (i : Nat) (d : Int) : d ≤ undr f i d := by unfold undr; split <;> omega

theorem rlift_lift {b c : Int} (hb : 0 ≤ b) : ∀ t : Trm,leafT t = true → ∀ e e' : Int,e ≤ e' → e' ≤ e + b → rlift c (rlift b t e) e' = rlift (c + b) t e := by
  refine Trm.ind ?_
  intro t ih hl e e' h1 h2
  obtain ⟨f,n,h,nm,ls,ks⟩ := t
  obtain ⟨hk,hl⟩ := (leaf_eq ..).1 hl
  have key : ∀ (l : List Trm) (i : Nat),(∀ k,k ∈ l → k ∈ ks) → rlifts c f i (rlifts b f i l e) e' = rlifts (c + b) f i l e := by
    intro l
    induction l with
    | nil => intro i _; simp only [rlifts]
    | cons k t iht =>
      intro i hm
      simp only [rlifts]
      rw [ih k (hm k (by simp)) (hl k (hm k (by simp))) _ _ (by unfold undr; split <;> omega) (by rw [show undr f i e + b = undr f i (e + b) from (undr_add ..).symm]; unfold undr; split <;> omega),iht (i + 1) (fun q hq => hm q (by simp [hq]))]
  by_cases hf : f = 1 ∧ e ≤ n
  · rw [show rlift b (.mk f n h nm ls ks) e = .mk f (n + b) h nm ls ks by rw [rlift,if_pos hf],show rlift (c + b) (.mk f n h nm ls ks) e = .mk f (n + (c + b)) h nm ls ks by rw [rlift,if_pos hf],rlift,if_pos ⟨hf.1,by omega⟩]
    congr 1
    omega
  · rw [show rlift b (.mk f n h nm ls ks) e = .mk f n h nm ls (rlifts b f 0 ks e) by rw [rlift,if_neg hf],show rlift (c + b) (.mk f n h nm ls ks) e = .mk f n h nm ls (rlifts (c + b) f 0 ks e) by rw [rlift,if_neg hf],rlift,if_neg (by rintro ⟨h3,h4⟩; exact hf ⟨h3,by omega⟩),key ks 0 (fun _ h => h)]
theorem rlift_leaf {b : Int} : ∀ t : Trm,leafT t = true → ∀ e : Int,leafT (rlift b t e) = true := by
  refine Trm.ind ?_
  intro t ih hl e
  obtain ⟨f,n,h,nm,ls,ks⟩ := t
  obtain ⟨hk,hl⟩ := (leaf_eq ..).1 hl
  have key : ∀ (l : List Trm) (i : Nat),(∀ k,k ∈ l → k ∈ ks) → ∀ k,k ∈ rlifts b f i l e → leafT k = true := by
    intro l
    induction l with
    | nil => intro i _ k hk; simp only [rlifts] at hk; cases hk
    | cons k t iht =>
      intro i hm q hq
      simp only [rlifts] at hq
      rcases List.mem_cons.1 hq with rfl | hq
      · exact ih k (hm k (by simp)) (hl k (hm k (by simp))) _
      · exact iht (i + 1) (fun q hq => hm q (by simp [hq])) q hq
  by_cases hf : f = 1 ∧ e ≤ n
  · rw [rlift,if_pos hf]; exact (leaf_eq ..).2 ⟨hk,hl⟩
  · rw [rlift,if_neg hf]
    exact (leaf_eq ..).2 ⟨fun h1 => by rw [hk h1]; simp only [rlifts],key ks 0 (fun _ h => h)⟩
theorem rsub_leaf {p : Int} {s : Trm} (hs : leafT s = true) : ∀ t : Trm,leafT t = true → ∀ d : Int,leafT (rsub p s t d) = true := by
  refine Trm.ind ?_
  intro t ih hl e
  obtain ⟨f,n,h,nm,ls,ks⟩ := t
  obtain ⟨hk,hl⟩ := (leaf_eq ..).1 hl
  have key : ∀ (l : List Trm) (i : Nat),(∀ k,k ∈ l → k ∈ ks) → ∀ k,k ∈ rsubs p s f i l e → leafT k = true := by
    intro l
    induction l with
    | nil => intro i _ k hk; simp only [rsubs] at hk; cases hk
    | cons k t iht =>
      intro i hm q hq
      simp only [rsubs] at hq
      rcases List.mem_cons.1 hq with rfl | hq
      · exact ih k (hm k (by simp)) (hl k (hm k (by simp))) _
      · exact iht (i + 1) (fun q hq => hm q (by simp [hq])) q hq
  rw [rsub]
  by_cases hf : f = 1
  · rw [if_pos hf]
    split
    · exact rlift_leaf s hs 0
    · split <;> exact (leaf_eq ..).2 ⟨hk,hl⟩
  · rw [if_neg hf]
    exact (leaf_eq ..).2 ⟨fun h1 => absurd h1 hf,key ks 0 (fun _ h => h)⟩
theorem rsub_lift {x : Trm} {b : Int} (hb : 0 ≤ b) : ∀ t : Trm,leafT t = true → ∀ c : Int,rsub 0 x (rlift (b + 1) t c) (c + b) = rlift b t c := by
  refine Trm.ind ?_
  intro t ih hl c
  obtain ⟨f,n,h,nm,ls,ks⟩ := t
  obtain ⟨hk,hl⟩ := (leaf_eq ..).1 hl
  have key : ∀ (l : List Trm) (i : Nat),(∀ k,k ∈ l → k ∈ ks) → rsubs 0 x f i (rlifts (b + 1) f i l c) (c + b) = rlifts b f i l c := by
    intro l
    induction l with
    | nil => intro i _; simp only [rsubs,rlifts]
    | cons k t iht =>
      intro i hm
      simp only [rsubs,rlifts]
      rw [undr_add,ih k (hm k (by simp)) (hl k (hm k (by simp))),iht (i + 1) (fun q hq => hm q (by simp [hq]))]
  by_cases hf : f = 1 ∧ c ≤ n
  · rw [show rlift (b + 1) (.mk f n h nm ls ks) c = .mk f (n + (b + 1)) h nm ls ks by rw [rlift,if_pos hf],show rlift b (.mk f n h nm ls ks) c = .mk f (n + b) h nm ls ks by rw [rlift,if_pos hf],rsub,if_pos hf.1,if_neg (by omega),if_pos (by omega)]
    congr 1
    omega
  · rw [show rlift (b + 1) (.mk f n h nm ls ks) c = .mk f n h nm ls (rlifts (b + 1) f 0 ks c) by rw [rlift,if_neg hf],show rlift b (.mk f n h nm ls ks) c = .mk f n h nm ls (rlifts b f 0 ks c) by rw [rlift,if_neg hf],rsub]
    by_cases h1 : f = 1
    · have : ¬ c ≤ n := fun h => hf ⟨h1,h⟩
      rw [if_pos h1,if_neg (by omega),if_neg (by omega),hk h1]
      simp only [rlifts]
    · rw [if_neg h1,key ks 0 (fun _ h => h)]
theorem rlift_zero : ∀ t : Trm,∀ c : Int,rlift 0 t c = t := by
  refine Trm.ind ?_
  intro t ih c
  obtain ⟨f,n,h,nm,ls,ks⟩ := t
  have key : ∀ (l : List Trm) (i : Nat),(∀ k,k ∈ l → k ∈ ks) → rlifts 0 f i l c = l := by
    intro l
    induction l with
    | nil => intro i _; simp only [rlifts]
    | cons k t iht =>
      intro i hm
      simp only [rlifts]
      rw [ih k (hm k (by simp)),iht (i + 1) (fun q hq => hm q (by simp [hq]))]
  rw [rlift]
  split
  · rw [Int.add_zero]
  · rw [key ks 0 (fun _ h => h)]
theorem lift_sub {u : Trm} {p b : Int} (hu : leafT u = true) (hp : 0 ≤ p) (hb : 0 ≤ b) : ∀ t : Trm,leafT t = true → ∀ c : Int,0 ≤ c → rsub p u (rlift b t c) (c + b) = rlift b (rsub p u t c) c := by
  refine Trm.ind ?_
  intro t ih hl c hc
  obtain ⟨f,n,h,nm,ls,ks⟩ := t
  obtain ⟨hk,hl⟩ := (leaf_eq ..).1 hl
  have key : ∀ (l : List Trm) (i : Nat),(∀ k,k ∈ l → k ∈ ks) → rsubs p u f i (rlifts b f i l c) (c + b) = rlifts b f i (rsubs p u f i l c) c := by
    intro l
    induction l with
    | nil => intro i _; simp only [rsubs,rlifts]
    | cons k t iht =>
      intro i hm
      simp only [rsubs,rlifts]
      rw [undr_add,ih k (hm k (by simp)) (hl k (hm k (by simp))) _ (Int.le_trans hc (undr_low ..)),iht (i + 1) (fun q hq => hm q (by simp [hq]))]
  by_cases h1 : f = 1
  · have e0 := hk h1
    subst e0
    by_cases h2 : c ≤ n
    · rw [show rlift b (.mk f n h nm ls []) c = .mk f (n + b) h nm ls [] by rw [rlift,if_pos ⟨h1,h2⟩],rsub,rsub,if_pos h1,if_pos h1]
      by_cases h3 : n = p + c
      · rw [if_pos (by omega),if_pos h3,rlift_lift hc u hu 0 c hc (by omega)]
        congr 1
        omega
      · rw [if_neg (by omega),if_neg h3]
        by_cases h4 : p + c < n
        · rw [if_pos (by omega),if_pos h4,rlift,if_pos ⟨h1,by omega⟩]
          congr 1
          omega
        · rw [if_neg (by omega),if_neg h4,rlift,if_pos ⟨h1,h2⟩]
    · rw [show rlift b (.mk f n h nm ls []) c = .mk f n h nm ls [] by rw [rlift,if_neg (fun h => h2 h.2)]; simp only [rlifts],rsub,rsub,if_pos h1,if_pos h1,if_neg (by omega),if_neg (by omega),if_neg (by omega),if_neg (by omega),rlift,if_neg (fun h => h2 h.2)]
      simp only [rlifts]
  · rw [show rlift b (.mk f n h nm ls ks) c = .mk f n h nm ls (rlifts b f 0 ks c) by rw [rlift,if_neg (fun h => h1 h.1)],rsub,if_neg h1,rsub,if_neg h1,rlift,if_neg (fun h => h1 h.1),key ks 0 (fun _ h => h)]
theorem sub_sub {s u : Trm} (hs : leafT s = true) (hu : leafT u = true) : ∀ t : Trm,leafT t = true → ∀ d : Int,0 ≤ d → rsub 0 u (rsub 0 s t d) d = rsub 0 (rsub 0 u s 0) (rsub 1 (rlift 1 u 0) t d) d := by
  refine Trm.ind ?_
  intro t ih hl d hd
  obtain ⟨f,n,h,nm,ls,ks⟩ := t
  obtain ⟨hk,hl⟩ := (leaf_eq ..).1 hl
  have key : ∀ (l : List Trm) (i : Nat),(∀ k,k ∈ l → k ∈ ks) → rsubs 0 u f i (rsubs 0 s f i l d) d = rsubs 0 (rsub 0 u s 0) f i (rsubs 1 (rlift 1 u 0) f i l d) d := by
    intro l
    induction l with
    | nil => intro i _; simp only [rsubs]
    | cons k t iht =>
      intro i hm
      simp only [rsubs]
      rw [ih k (hm k (by simp)) (hl k (hm k (by simp))) _ (Int.le_trans hd (undr_low ..)),iht (i + 1) (fun q hq => hm q (by simp [hq]))]
  by_cases h1 : f = 1
  · have e0 := hk h1
    subst e0
    rw [show rsub 0 s (.mk f n h nm ls []) d = _ by rw [rsub,if_pos h1],show rsub 1 (rlift 1 u 0) (.mk f n h nm ls []) d = _ by rw [rsub,if_pos h1]]
    by_cases h2 : n = 0 + d
    · rw [if_pos h2,if_neg (by omega),if_neg (by omega),rsub,if_pos h1,if_pos h2]
      have := lift_sub (p := 0) (b := d) hu (Int.le_refl _) hd s hs 0 (Int.le_refl _)
      rw [Int.zero_add] at this
      exact this
    · rw [if_neg h2]
      by_cases h3 : 0 + d < n
      · rw [if_pos h3,rsub,if_pos h1]
        by_cases h4 : n = 1 + d
        · rw [if_pos (by omega),if_pos h4,rlift_lift (by decide) u hu 0 0 (Int.le_refl _) (by decide)]
          have := rsub_lift (x := rsub 0 u s 0) (b := d) hd u hu 0
          rw [Int.zero_add] at this
          exact this.symm
        · rw [if_neg (by omega),if_pos (by omega),if_neg h4,if_pos (by omega),rsub,if_pos h1,if_neg (by omega),if_pos (by omega)]
      · rw [if_neg h3,rsub,if_pos h1,if_neg (by omega),if_neg (by omega),if_neg (by omega),if_neg (by omega),rsub,if_pos h1,if_neg (by omega),if_neg (by omega)]
  · rw [show rsub 0 s (.mk f n h nm ls ks) d = .mk f n h nm ls (rsubs 0 s f 0 ks d) by rw [rsub,if_neg h1],show rsub 1 (rlift 1 u 0) (.mk f n h nm ls ks) d = .mk f n h nm ls (rsubs 1 (rlift 1 u 0) f 0 ks d) by rw [rsub,if_neg h1],rsub,if_neg h1,rsub,if_neg h1,key ks 0 (fun _ h => h)]
end Go.Proofs.Ytdijijblccmfbaa
