/- Merged: LA LB. -/
import Derived.Test.YtpbpmpabndgeeaaLC

/- Whether two levels are one in all fields; the reference's Suc and Max. No condition. -/
set_option linter.unusedSimpArgs false
set_option linter.unusedVariables false
namespace Go.Proofs.Ytpbpmpabndgeeaa
open Go

theorem take_inj {α:Type} {l m:List α} {i:Nat} (hl:i < l.length) (hm:i < m.length):l.take (i+1)=m.take (i+1)↔l.take i=m.take i∧l[i]=m[i]:=by
  rw [List.take_succ_eq_append_getElem hl,List.take_succ_eq_append_getElem hm]
  constructor
  · intro h
    have:=List.append_inj h (by rw [List.length_take,List.length_take]; omega)
    exact ⟨this.1,by simpa using this.2⟩
  · rintro ⟨h1,h2⟩
    rw [h1,h2]
theorem take_ne {α:Type} {l m:List α} {i:Nat} (hl:i < l.length) (hm:i < m.length) (h:l[i]≠m[i]):l≠m:=fun e=>h (by subst e; rfl)

end Go.Proofs.Ytpbpmpabndgeeaa

