/- Merged: L7 L8 L9. -/
import Derived.Test.YtpbpmpabndgeeaaLP

/- The reference's canonical level. No condition but that no variable's number is below 0. -/
set_option linter.unusedSimpArgs false
set_option linter.unusedVariables false
namespace Go.Proofs.Ytpbpmpabndgeeaa
open Go

def Scan (vs:List LV) (last next add:Int):Prop := (next = -1∧add=0∧∀ p,p∈vs→p.1≤last) ∨ (0≤next∧last < next ∧ (next,add)∈vs∧∀ p,p∈vs→last < p.1→next < p.1 ∨ (p.1=next∧p.2≤add))
def scanS (last:Int) (v:LV) (x:Int×Int):Int×Int:=if v.1≤last then x else if x.1 < 0∨v.1 < x.1 then v else if v.1=x.1∧x.2 < v.2 then (x.1,v.2) else x
structure Upto (l o:List LV) (last:Int):Prop where
  srt:Srt o
  sub:∀ q,q∈o→q∈l∧q.1≤last
  cov:∀ p,p∈l→p.1≤last→∃ q,q∈o∧q.1=p.1∧p.2≤q.2
theorem Upto.nil {l:List LV} (hv:∀ p,p∈l→0≤p.1):Upto l [] (-1):=⟨List.Pairwise.nil,fun q hq => (by cases hq),fun p hp h => (by have:=hv p hp; omega)⟩
theorem Upto.next {l o:List LV} {last next add:Int} (h:Upto l o last) (hs:Scan l last next add) (hn:0≤next):Upto l (o++[(next,add)]) next:=by
  rcases hs with ⟨e,_,_⟩ | ⟨a1,a2,a3,a4⟩
  · omega
  · refine ⟨List.pairwise_append.2 ⟨h.srt,srt_single _,fun a ha b hb=>?_⟩,fun q hq=>?_,fun p hp hl=>?_⟩
    · rw [List.mem_singleton.1 hb]; have := (h.sub a ha).2; show a.1 < next; omega
    · rcases List.mem_append.1 hq with hq | hq
      · exact ⟨(h.sub q hq).1,by have := (h.sub q hq).2; omega⟩
      · rw [List.mem_singleton.1 hq]; exact ⟨a3,Int.le_refl _⟩
    · by_cases h1:p.1≤last
      · obtain ⟨q,q1,q2,q3⟩:=h.cov p hp h1
        exact ⟨q,List.mem_append.2 (.inl q1),q2,q3⟩
      · rcases a4 p hp (by omega) with h2 | h2
        · omega
        · exact ⟨(next,add),by simp,h2.1.symm,h2.2⟩
theorem Upto.done {l o:List LV} {last next add:Int} (h:Upto l o last) (hs:Scan l last next add) (hn:next < 0):o=nfL l:=by
  rcases hs with ⟨_,_,h1⟩ | ⟨a1,_,_,_⟩
  · exact (nfL_eq (l:=o) ⟨h.srt,fun q hq => (h.sub q hq).1,fun p hp=>h.cov p hp (h1 p hp)⟩).symm
  · omega
theorem Upto.len {l o:List LV} {last:Int} (h:Upto l o last):o.length≤l.length:=by
  refine Nat.le_trans (nf_len (vs:=l.filter fun p=>decide (p.1≤last)) ⟨h.srt,fun q hq=>?_,fun p hp=>?_⟩) (List.length_filter_le _ _)
  · rw [List.mem_filter]; exact ⟨(h.sub q hq).1,by simpa using (h.sub q hq).2⟩
  · rw [List.mem_filter] at hp; exact h.cov p hp.1 (by simpa using hp.2)
end Go.Proofs.Ytpbpmpabndgeeaa

/- The reference's right,Norm,fits; small functions of the statements. No condition. -/
namespace Go.Proofs.Ytpbpmpabndgeeaa
open Go

section
variable (n:Nat) (h:Hps) (hg:∀ k,n≤k→GoodAt k h)
include hg
end
end Go.Proofs.Ytpbpmpabndgeeaa
