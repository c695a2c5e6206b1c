/- Levels put in for variables, in plain Lean: telling at each step, or at the end alone. No condition. -/
import Derived.Test.YtdijijblccmfbaaTI
set_option linter.unusedSimpArgs false
set_option linter.unusedVariables false
namespace Go.Proofs.Ytdijijblccmfbaa
open Go
theorem Nf.dom {vs l : List LV} (h : Nf vs l) : ∀ p,p ∈ vs → ∃ q,q ∈ l ∧ p.1 = q.1 ∧ p.2 ≤ q.2 := fun p hp => by
  obtain ⟨q,h1,h2,h3⟩ := h.cov p hp
  exact ⟨q,h1,h2.symm,h3⟩
theorem zn_pos {n : Int} {v : List LV} (h : 0 ≤ n) : 0 ≤ zn n v := by unfold zn; split <;> omega

def Lev.uni (a b : Lev) : Lev := ⟨max a.n b.n,a.v ++ b.v⟩
theorem srt_in : ∀ (l vs : List LV),Srt l → (∀ p,p ∈ l → p ∈ vs) → l.length ≤ vs.length
  | [],_,_,_ => Nat.zero_le _
  | a :: t,vs,hs,hsub => by
    have hs' := List.pairwise_cons.1 hs
    have ha : a ∈ vs := hsub a (by simp)
    have := srt_in t (vs.erase a) hs'.2 (fun p hp => by
      have hne : p ≠ a := fun e => by have := hs'.1 p hp; rw [e] at this; omega
      exact (List.mem_erase_of_ne hne).2 (hsub p (by simp [hp])))
    rw [List.length_erase_of_mem ha] at this
    have : 0 < vs.length := List.length_pos_of_mem ha
    simp only [List.length_cons]
    omega
theorem srt_keys {l m : List LV} (hl : Srt l) (h : ∀ p,p ∈ l → ∃ q,q ∈ m ∧ p.1 = q.1) : l.length ≤ m.length := by
  have h1 : Srt (l.map fun p => (p.1,(0 : Int))) := List.pairwise_map.2 hl
  have := srt_in _ (m.map fun p => (p.1,(0 : Int))) h1 (fun p hp => by
    obtain ⟨p',hp',rfl⟩ := List.mem_map.1 hp
    obtain ⟨q,hq,e⟩ := h p' hp'
    exact List.mem_map.2 ⟨q,hq,by rw [e]⟩)
  rw [List.length_map,List.length_map] at this
  exact this

def Nn (a : Lev) : Prop := 0 ≤ a.n ∧ ∀ p,p ∈ a.v → 0 ≤ p.1 ∧ 0 ≤ p.2
theorem Nn.norm {a : Lev} (h : Nn a) : Nn a.norm := ⟨zn_pos h.1,fun p hp => h.2 p ((nfL_nf a.v).sub p hp)⟩
theorem Nn.uni {a b : Lev} (h1 : Nn a) (h2 : Nn b) : Nn (a.uni b) := ⟨Int.le_trans h1.1 (Int.le_max_left _ _),fun p hp => by
  rcases List.mem_append.1 hp with hp | hp
  · exact h1.2 p hp
  · exact h2.2 p hp⟩
theorem right_nn {a : Lev} (h : a.right = true) : Nn a := by
  obtain ⟨h1,_,h3⟩ := right_iff.1 h
  exact ⟨h1.1,fun p hp => ⟨(h3 p hp).1.1,(h3 p hp).2.1⟩⟩

theorem zn_iff {N : Int} {v : List LV} : zn N v = if ∃ q,q ∈ v ∧ N ≤ q.2 then 0 else N := by
  unfold zn
  by_cases h : ∃ q,q ∈ v ∧ N ≤ q.2
  · obtain ⟨q,hq,e⟩ := h
    rw [if_pos (List.any_eq_true.2 ⟨q,hq,decide_eq_true e⟩),if_pos ⟨q,hq,e⟩]
  · rw [if_neg h,if_neg]
    intro h'
    obtain ⟨q,hq,e⟩ := List.any_eq_true.1 h'
    exact h ⟨q,hq,of_decide_eq_true e⟩
theorem zn_part {N R : Int} {v w : List LV} (hR : 0 ≤ R) (hN : 0 ≤ N) (h : ∀ p,p ∈ v → ∃ q,q ∈ w ∧ p.2 ≤ q.2) : zn (max (zn N v) R) w = zn (max N R) w := by
  by_cases hz : ∃ q,q ∈ v ∧ N ≤ q.2
  · have e : zn N v = 0 := by rw [zn_iff,if_pos hz]
    obtain ⟨q,hq,e1⟩ := hz
    obtain ⟨r,hr,e2⟩ := h q hq
    rw [e,Int.max_eq_right hR]
    rcases Int.le_total N R with h1 | h1
    · rw [Int.max_eq_right h1]
    · rw [Int.max_eq_left h1,zn_iff,zn_iff,if_pos ⟨r,hr,by omega⟩,if_pos ⟨r,hr,by omega⟩]
  · rw [show zn N v = N by rw [zn_iff,if_neg hz]]
theorem uni_norm1 {a b : Lev} (ha : 0 ≤ a.n) (hb : 0 ≤ b.n) : (a.norm.uni b).norm = (a.uni b).norm := by
  have e : nfL (nfL a.v ++ b.v) = nfL (a.v ++ b.v) := (nfL_eq (Nf.app (nfL_nf a.v) (nfL_nf _))).symm
  have e1 : (a.norm.uni b).norm = ⟨zn (max (zn a.n (nfL a.v)) b.n) (nfL (nfL a.v ++ b.v)),nfL (nfL a.v ++ b.v)⟩ := rfl
  have e2 : (a.uni b).norm = ⟨zn (max a.n b.n) (nfL (a.v ++ b.v)),nfL (a.v ++ b.v)⟩ := rfl
  rw [e1,e2,e,zn_part hb ha (fun p hp => by
    obtain ⟨q,hq,_,h⟩ := (nfL_nf (a.v ++ b.v)).cov p (List.mem_append_left _ ((nfL_nf a.v).sub p hp))
    exact ⟨q,hq,h⟩)]
theorem uni_norm2 {a b : Lev} (ha : 0 ≤ a.n) (hb : 0 ≤ b.n) : (a.uni b.norm).norm = (a.uni b).norm := by
  have e : nfL (a.v ++ nfL b.v) = nfL (a.v ++ b.v) := (nfL_eq (Nf.app2 (nfL_nf b.v) (nfL_nf _))).symm
  have e1 : (a.uni b.norm).norm = ⟨zn (max a.n (zn b.n (nfL b.v))) (nfL (a.v ++ nfL b.v)),nfL (a.v ++ nfL b.v)⟩ := rfl
  have e2 : (a.uni b).norm = ⟨zn (max a.n b.n) (nfL (a.v ++ b.v)),nfL (a.v ++ b.v)⟩ := rfl
  rw [e1,e2,e,Int.max_comm a.n,Int.max_comm a.n,zn_part ha hb (fun p hp => by
    obtain ⟨q,hq,_,h⟩ := (nfL_nf (a.v ++ b.v)).cov p (List.mem_append_right _ ((nfL_nf b.v).sub p hp))
    exact ⟨q,hq,h⟩)]
theorem join_uni {a b : Lev} (ha : Srt a.v) (hb : Srt b.v) : (a.join b).norm = (a.uni b).norm := by
  have e : merge a.v b.v = nfL (a.v ++ b.v) := merge_eq (Nf.self ha) (Nf.self hb)
  have e1 : (a.join b).norm = ⟨zn (max a.n b.n) (nfL (merge a.v b.v)),nfL (merge a.v b.v)⟩ := rfl
  have e2 : (a.uni b).norm = ⟨zn (max a.n b.n) (nfL (a.v ++ b.v)),nfL (a.v ++ b.v)⟩ := rfl
  rw [e1,e2,e,nfL_srt (nfL_nf _).srt]
theorem uni_right2 {a b : Lev} (ha : Nn a) (hb : Nn b) (h : (a.uni b).norm.right = true) : b.norm.right = true := by
  obtain ⟨h1,h2,h3⟩ := right_iff.1 h
  replace h1 : 0 ≤ zn (max a.n b.n) (nfL (a.v ++ b.v)) ∧ zn (max a.n b.n) (nfL (a.v ++ b.v)) ≤ 1000 := h1
  replace h2 : (nfL (a.v ++ b.v)).length ≤ 64 := h2
  replace h3 : ∀ p,p ∈ nfL (a.v ++ b.v) → (0 ≤ p.1 ∧ p.1 ≤ 1000) ∧ 0 ≤ p.2 ∧ p.2 ≤ 1000 := h3
  have hc : ∀ p,p ∈ nfL b.v → ∃ q,q ∈ nfL (a.v ++ b.v) ∧ p.1 = q.1 ∧ p.2 ≤ q.2 := fun p hp => (nfL_nf (a.v ++ b.v)).dom p (List.mem_append_right _ ((nfL_nf b.v).sub p hp))
  have hN : max a.n b.n ≤ 1000 := by
    rw [zn_iff] at h1
    by_cases hz : ∃ q,q ∈ nfL (a.v ++ b.v) ∧ max a.n b.n ≤ q.2
    · obtain ⟨q,hq,e⟩ := hz
      have := h3 q hq
      omega
    · rw [if_neg hz] at h1; exact h1.2
  have nn := hb.norm
  refine right_iff.2 ⟨⟨nn.1,?_⟩,Nat.le_trans (srt_keys (nfL_nf b.v).srt (fun p hp => by obtain ⟨q,hq,e,_⟩ := hc p hp; exact ⟨q,hq,e⟩)) h2,fun p hp => ?_⟩
  · have h4 : b.norm.n ≤ b.n := by
      show zn b.n (nfL b.v) ≤ b.n
      have := hb.1
      unfold zn; split <;> omega
    omega
  · obtain ⟨q,hq,e1,e2⟩ := hc p hp
    have := h3 q hq
    have := nn.2 p hp
    omega
theorem uni_comm_norm {a b : Lev} : (a.uni b).norm = (b.uni a).norm := by
  have e : nfL (a.v ++ b.v) = nfL (b.v ++ a.v) := nfL_eq ⟨(nfL_nf _).srt,fun p hp => by
    have := (nfL_nf (b.v ++ a.v)).sub p hp
    rcases List.mem_append.1 this with h | h
    · exact List.mem_append_right _ h
    · exact List.mem_append_left _ h,fun p hp => (nfL_nf (b.v ++ a.v)).cov p (by
    rcases List.mem_append.1 hp with h | h
    · exact List.mem_append_right _ h
    · exact List.mem_append_left _ h)⟩
  have e1 : (a.uni b).norm = ⟨zn (max a.n b.n) (nfL (a.v ++ b.v)),nfL (a.v ++ b.v)⟩ := rfl
  have e2 : (b.uni a).norm = ⟨zn (max b.n a.n) (nfL (b.v ++ a.v)),nfL (b.v ++ a.v)⟩ := rfl
  rw [e1,e2,e,Int.max_comm]
theorem uni_right1 {a b : Lev} (ha : Nn a) (hb : Nn b) (h : (a.uni b).norm.right = true) : a.norm.right = true := uni_right2 hb ha (by rw [uni_comm_norm]; exact h)
def Lev.num (x : Lev) (k : Int) : Int := if 0 < x.n ∨ x.v = [] then x.n + k else 0
def Lev.it (x : Lev) (k : Int) : Lev := ⟨x.num k,x.v.map (addV k)⟩
theorem it_norm {x : Lev} {k : Int} (hx : Nn x) : (x.it k).norm = (x.more k).norm := by
  have e1 : (x.it k).norm = ⟨zn (x.num k) (nfL (x.v.map (addV k))),nfL (x.v.map (addV k))⟩ := rfl
  have e2 : (x.more k).norm = ⟨zn (x.n + k) (nfL (x.v.map (addV k))),nfL (x.v.map (addV k))⟩ := rfl
  rw [e1,e2]
  unfold Lev.num
  by_cases h : 0 < x.n ∨ x.v = []
  · rw [if_pos h]
  · rw [if_neg h]
    have hn : x.n = 0 := by have := hx.1; omega
    have hv : x.v ≠ [] := fun e => h (.inr e)
    obtain ⟨p,hp⟩ := List.exists_mem_of_ne_nil _ hv
    obtain ⟨q,hq,_,e⟩ := (nfL_nf (x.v.map (addV k))).cov (addV k p) (List.mem_map.2 ⟨p,hp,rfl⟩)
    have hp2 := (hx.2 p hp).2
    have e : p.2 + k ≤ q.2 := e
    rw [show zn (x.n + k) (nfL (x.v.map (addV k))) = 0 by rw [zn_iff,if_pos ⟨q,hq,by omega⟩],zn_0']
where zn_0' {v : List LV} : zn 0 v = 0 := by unfold zn; split <;> rfl
theorem Nn.it {x : Lev} {k : Int} (hx : Nn x) (hk : 0 ≤ k) : Nn (x.it k) := by
  refine ⟨?_,fun p hp => ?_⟩
  · show 0 ≤ x.num k
    have := hx.1
    unfold Lev.num; split <;> omega
  · obtain ⟨q,hq,rfl⟩ := List.mem_map.1 hp
    have := hx.2 q hq
    exact ⟨this.1,by show 0 ≤ q.2 + k; omega⟩
def rfLoop (args : List Lev) : List LV → Lev → Option Lev
  | [],o => some o
  | v :: t,o => match args[v.1.toNat]? with
    | none => none
    | some a => rfLoop args t (o.uni (a.norm.it v.2))
def rfTold : Option Lev → Lev × Int
  | none => badL
  | some o => o.told
theorem told_bad {o : Lev} (h : ¬ o.norm.right = true) : o.told = badL := by unfold Lev.told; rw [if_neg h]; rfl
theorem told_good {o : Lev} (h : o.norm.right = true) : o.told = (o.norm,0) := by unfold Lev.told; rw [if_pos h]
theorem rf_bad (args : List Lev) (ha : ∀ a,a ∈ args → a.right = true) : ∀ (vs : List LV) (o : Lev),(∀ p,p ∈ vs → 0 ≤ p.2) → Nn o → ¬ o.norm.right = true → rfTold (rfLoop args vs o) = badL
  | [],o,_,_,h => told_bad h
  | v :: t,o,hv,hn,h => by
    unfold rfLoop
    cases e : args[v.1.toNat]? with
    | none => rfl
    | some a =>
      have hi : Nn (a.norm.it v.2) := (right_nn (ha a (List.mem_of_getElem? e))).norm.it (hv v (by simp))
      exact rf_bad args ha t _ (fun p hp => hv p (by simp [hp])) (hn.uni hi) (fun h' => h (uni_right1 hn hi h'))
theorem sub_same (args : List Lev) (ha : ∀ a,a ∈ args → a.right = true) : ∀ (vs : List LV) (raw : Lev),(∀ p,p ∈ vs → 0 ≤ p.2 ∧ p.2 ≤ 1000) → Nn raw → raw.norm.right = true → sbLoop args vs raw.norm = rfTold (rfLoop args vs raw)
  | [],raw,_,hn,h => by
    unfold sbLoop rfLoop
    exact told_of (norm_norm raw hn.1 (fun p hp => (hn.2 p hp).2))
  | v :: t,raw,hv,hn,h => by
    unfold sbLoop rfLoop
    cases e : args[v.1.toNat]? with
    | none => rfl
    | some a =>
      have hk := hv v (by simp)
      have har := ha a (List.mem_of_getElem? e)
      have hi : Nn (a.norm.it v.2) := (right_nn har).norm.it hk.1
      have hs : a.suc v.2 = (a.norm.it v.2).told := by
        unfold Lev.suc
        rw [if_pos har,if_neg (by omega),if_neg (by omega)]
        exact told_of (it_norm (right_nn har).norm).symm
      have hvt : ∀ p,p ∈ t → 0 ≤ p.2 ∧ p.2 ≤ 1000 := fun p hp => hv p (by simp [hp])
      show (if (a.suc v.2).2 ≠ 0 then badL else if (raw.norm.max2 (a.suc v.2).1).2 ≠ 0 then badL else sbLoop args t (raw.norm.max2 (a.suc v.2).1).1) = rfTold (rfLoop args t (raw.uni (a.norm.it v.2)))
      rw [hs]
      generalize a.norm.it v.2 = b at hi
      by_cases hb : b.norm.right = true
      · rw [told_good hb,if_neg (by simp)]
        have e1 : raw.norm.norm = raw.norm := norm_norm raw hn.1 (fun p hp => (hn.2 p hp).2)
        have e2 : b.norm.norm = b.norm := norm_norm b hi.1 (fun p hp => (hi.2 p hp).2)
        have hm : raw.norm.max2 b.norm = (raw.uni b).told := by
          unfold Lev.max2
          rw [if_pos h,if_pos hb,e1,e2]
          apply told_of
          rw [join_uni (nfL_nf raw.v).srt (nfL_nf b.v).srt,uni_norm1 hn.1 hi.norm.1,uni_norm2 hn.1 hi.1]
        show (if (raw.norm.max2 b.norm).2 ≠ 0 then badL else sbLoop args t (raw.norm.max2 b.norm).1) = _
        rw [hm]
        by_cases hu : (raw.uni b).norm.right = true
        · rw [told_good hu,if_neg (by simp)]
          exact sub_same args ha t (raw.uni b) hvt (hn.uni hi) hu
        · rw [told_bad hu,if_pos (by decide)]
          exact (rf_bad args ha t _ (fun p hp => (hvt p hp).1) (hn.uni hi) hu).symm
      · rw [told_bad hb,if_pos (by decide)]
        exact (rf_bad args ha t _ (fun p hp => (hvt p hp).1) (hn.uni hi) (fun h' => hb (uni_right2 hn hi h'))).symm
def Lev.rsubst (l : Lev) (args : List Lev) : Lev × Int := if l.right then (if args.all Lev.right then rfTold (rfLoop args l.norm.v ⟨l.norm.n,[]⟩) else badL) else badL
theorem subst_same (l : Lev) (args : List Lev) : l.subst args = l.rsubst args := by
  unfold Lev.subst Lev.rsubst
  by_cases hl : l.right = true
  · rw [if_pos hl,if_pos hl]
    by_cases ha : args.all Lev.right = true
    · rw [if_pos ha,if_pos ha]
      obtain ⟨h1,_,h3⟩ := right_iff.1 (right_norm hl)
      have e : (⟨l.norm.n,[]⟩ : Lev).norm = ⟨l.norm.n,[]⟩ := rfl
      have := sub_same args (fun a h => List.all_eq_true.1 ha a h) l.norm.v ⟨l.norm.n,[]⟩ (fun p hp => (h3 p hp).2) ⟨h1.1,fun p hp => by cases hp⟩ (by rw [e]; exact right_iff.2 ⟨h1,Nat.zero_le _,fun p hp => by cases hp⟩)
      rw [e] at this
      exact this
    · rw [if_neg ha,if_neg ha]
  · rw [if_neg hl,if_neg hl]
end Go.Proofs.Ytdijijblccmfbaa
