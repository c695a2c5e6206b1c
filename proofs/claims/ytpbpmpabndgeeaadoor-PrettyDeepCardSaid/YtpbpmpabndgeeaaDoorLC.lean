/- Merged: L7 L8 L9. -/
import Derived.Test.YtpbpmpabndgeeaaDoorLP

/- The reference's canonical level. No condition but that no variable's number is below 0. -/
set_option linter.unusedSimpArgs false
set_option linter.unusedVariables false
namespace Go.Proofs.YtpbpmpabndgeeaaDoor
open Go

def Scan (vs : List LV) (last next add : Int) : Prop := (next = -1 ∧ add = 0 ∧ ∀ p,p ∈ vs → p.1 ≤ last) ∨ (0 ≤ next ∧ last < next ∧ (next,add) ∈ vs ∧ ∀ p,p ∈ vs → last < p.1 → next < p.1 ∨ (p.1 = next ∧ p.2 ≤ add))
theorem scan_nil (last : Int) : Scan [] last (-1) 0 := .inl ⟨rfl,rfl,fun p hp => by cases hp⟩

def scanS (last : Int) (v : LV) (x : Int × Int) : Int × Int := if v.1 ≤ last then x else if x.1 < 0 ∨ v.1 < x.1 then v else if v.1 = x.1 ∧ x.2 < v.2 then (x.1,v.2) else x
theorem scan_snoc {vs : List LV} {last : Int} {x : Int × Int} {v : LV} (h : Scan vs last x.1 x.2) (hv : 0 ≤ v.1) : Scan (vs ++ [v]) last (scanS last v x).1 (scanS last v x).2 := by
  unfold scanS
  by_cases h1 : v.1 ≤ last
  · rw [if_pos h1]
    rcases h with ⟨e1,e2,h⟩ | ⟨a1,a2,a3,h⟩
    · refine .inl ⟨e1,e2,fun p hp => ?_⟩
      rcases List.mem_append.1 hp with hp | hp
      · exact h p hp
      · rw [List.mem_singleton.1 hp]; exact h1
    · refine .inr ⟨a1,a2,List.mem_append.2 (.inl a3),fun p hp hl => ?_⟩
      rcases List.mem_append.1 hp with hp | hp
      · exact h p hp hl
      · rw [List.mem_singleton.1 hp] at hl; omega
  · rw [if_neg h1]
    by_cases h2 : x.1 < 0 ∨ v.1 < x.1
    · rw [if_pos h2]
      refine .inr ⟨hv,by omega,by simp,fun p hp hl => ?_⟩
      rcases List.mem_append.1 hp with hp | hp
      · rcases h with ⟨e1,e2,h⟩ | ⟨a1,a2,a3,h⟩
        · have := h p hp; omega
        · rcases h p hp hl with h3 | h3 <;> omega
      · rw [List.mem_singleton.1 hp]; exact .inr ⟨rfl,Int.le_refl _⟩
    · rw [if_neg h2]
      rcases h with ⟨e1,_,_⟩ | ⟨a1,a2,a3,h⟩
      · omega
      · by_cases h3 : v.1 = x.1 ∧ x.2 < v.2
        · rw [if_pos h3]
          refine .inr ⟨a1,a2,by
            have : v = (x.1,v.2) := Prod.ext h3.1 rfl
            rw [← this]; simp,fun p hp hl => ?_⟩
          rcases List.mem_append.1 hp with hp | hp
          · rcases h p hp hl with h4 | h4
            · exact .inl h4
            · exact .inr ⟨h4.1,by show p.2 ≤ v.2; omega⟩
          · rw [List.mem_singleton.1 hp]; exact .inr ⟨h3.1,Int.le_refl _⟩
        · rw [if_neg h3]
          refine .inr ⟨a1,a2,List.mem_append.2 (.inl a3),fun p hp hl => ?_⟩
          rcases List.mem_append.1 hp with hp | hp
          · exact h p hp hl
          · rw [List.mem_singleton.1 hp]
            by_cases h4 : v.1 = x.1
            · exact .inr ⟨h4,by omega⟩
            · exact .inl (by omega)
structure Upto (l o : List LV) (last : Int) : Prop where
  srt : Srt o
  sub : ∀ q,q ∈ o → q ∈ l ∧ q.1 ≤ last
  cov : ∀ p,p ∈ l → p.1 ≤ last → ∃ q,q ∈ o ∧ q.1 = p.1 ∧ p.2 ≤ q.2
theorem Upto.nil {l : List LV} (hv : ∀ p,p ∈ l → 0 ≤ p.1) : Upto l [] (-1) := ⟨List.Pairwise.nil,fun q hq => (by cases hq),fun p hp h => (by have := hv p hp; omega)⟩
theorem Upto.next {l o : List LV} {last next add : Int} (h : Upto l o last) (hs : Scan l last next add) (hn : 0 ≤ next) : Upto l (o ++ [(next,add)]) next := by
  rcases hs with ⟨e,_,_⟩ | ⟨a1,a2,a3,a4⟩
  · omega
  · refine ⟨List.pairwise_append.2 ⟨h.srt,srt_single _,fun a ha b hb => ?_⟩,fun q hq => ?_,fun p hp hl => ?_⟩
    · rw [List.mem_singleton.1 hb]; have := (h.sub a ha).2; show a.1 < next; omega
    · rcases List.mem_append.1 hq with hq | hq
      · exact ⟨(h.sub q hq).1,by have := (h.sub q hq).2; omega⟩
      · rw [List.mem_singleton.1 hq]; exact ⟨a3,Int.le_refl _⟩
    · by_cases h1 : p.1 ≤ last
      · obtain ⟨q,q1,q2,q3⟩ := h.cov p hp h1
        exact ⟨q,List.mem_append.2 (.inl q1),q2,q3⟩
      · rcases a4 p hp (by omega) with h2 | h2
        · omega
        · exact ⟨(next,add),by simp,h2.1.symm,h2.2⟩
theorem Upto.done {l o : List LV} {last next add : Int} (h : Upto l o last) (hs : Scan l last next add) (hn : next < 0) : o = nfL l := by
  rcases hs with ⟨_,_,h1⟩ | ⟨a1,_,_,_⟩
  · exact (nfL_eq (l := o) ⟨h.srt,fun q hq => (h.sub q hq).1,fun p hp => h.cov p hp (h1 p hp)⟩).symm
  · omega
theorem Upto.len {l o : List LV} {last : Int} (h : Upto l o last) : o.length ≤ l.length := by
  refine Nat.le_trans (nf_len (vs := l.filter fun p => decide (p.1 ≤ last)) ⟨h.srt,fun q hq => ?_,fun p hp => ?_⟩) (List.length_filter_le _ _)
  · rw [List.mem_filter]; exact ⟨(h.sub q hq).1,by simpa using (h.sub q hq).2⟩
  · rw [List.mem_filter] at hp; exact h.cov p hp.1 (by simpa using hp.2)
theorem above_less {l : List LV} {last next add : Int} (hs : Scan l last next add) (hn : 0 ≤ next) : (l.filter fun p => decide (next < p.1)).length < (l.filter fun p => decide (last < p.1)).length := by
  rcases hs with ⟨e,_,_⟩ | ⟨_,a2,a3,_⟩
  · omega
  · have key : ∀ (l : List LV),(l.filter fun p => decide (next < p.1)).length ≤ (l.filter fun p => decide (last < p.1)).length ∧ ((next,add) ∈ l → (l.filter fun p => decide (next < p.1)).length < (l.filter fun p => decide (last < p.1)).length) := by
      intro l
      induction l with
      | nil => exact ⟨Nat.le_refl _,fun h => by cases h⟩
      | cons x t ih =>
        simp only [List.filter_cons]
        by_cases h1 : next < x.1
        · have h2 : last < x.1 := by omega
          rw [decide_eq_true h1,decide_eq_true h2]
          simp only [if_true,List.length_cons]
          refine ⟨by omega,fun hm => ?_⟩
          rcases List.mem_cons.1 hm with e | hm
          · rw [← e] at h1; omega
          · have := ih.2 hm; omega
        · rw [decide_eq_false h1]
          by_cases h2 : last < x.1
          · rw [decide_eq_true h2]
            simp only [if_true,List.length_cons]
            refine ⟨by have := ih.1; simp; omega,fun hm => by have := ih.1; simp; omega⟩
          · rw [decide_eq_false h2]
            refine ⟨by simpa using ih.1,fun hm => ?_⟩
            rcases List.mem_cons.1 hm with e | hm
            · rw [← e] at h2; exact absurd a2 h2
            · simpa using ih.2 hm
    exact (key l).2 a3

end Go.Proofs.YtpbpmpabndgeeaaDoor

/- The reference's right,Norm,fits; small functions of the statements. No condition. -/
namespace Go.Proofs.YtpbpmpabndgeeaaDoor
open Go

theorem good_of {n : Nat} {h : Hps} (hg : ∀ k,n ≤ k → GoodAt k h) {m : Nat} (hm : n ≤ m) : ∀ k,m ≤ k → GoodAt k h := fun k hk => hg k (Nat.le_trans hm hk)
section
variable (n : Nat) (h : Hps) (hg : ∀ k,n ≤ k → GoodAt k h)
include hg
end
end Go.Proofs.YtpbpmpabndgeeaaDoor
