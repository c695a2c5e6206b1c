/- The law at every input. No condition. -/
import Derived.Test.YtpbpmpabndgeeaaDoorPE
import Derived.Test.YtpbpmpabndgeeaaDoorPK
set_option linter.unusedSimpArgs false
set_option linter.unusedVariables false
namespace Go.Proofs.YtpbpmpabndgeeaaDoor
open Go

set_option maxHeartbeats 4000000 in
theorem qAll (N k : Int) (hid : Bool) : ∃ n' h',callFn (LX (cF Tryd.prog)) 0 [] [.int .i64 N,.int .i64 k,.bool hid] (cF Tryd.prog 3) = .ok (.bool true) n' h' := by
  have hgn : GoodAt 0 [] := good_nil
  have hal := qAlive
  by_cases q1 : N < 1
  · rw [f3_eq]; unfold c3; rw [callFn_eq (by rfl)]
    simp (disch:=first|assumption|omega|(simp (disch:=first|assumption|omega) only [sB,Nat.reduceAdd,Nat.reduceLT,Nat.reduceLeDiff,Nat.reduceEqDiff,Nat.reduceMul,↓reduceIte];done)|fail) only [sA,↓reduceIte,Nat.reduceLT,Nat.reduceEqDiff,Nat.reduceAdd,Nat.reduceLeDiff,hal,q1]
    exact ⟨_,_,rfl⟩
  by_cases q2 : N > 30
  · rw [f3_eq]; unfold c3; rw [callFn_eq (by rfl)]
    simp (disch:=first|assumption|omega|(simp (disch:=first|assumption|omega) only [sB,Nat.reduceAdd,Nat.reduceLT,Nat.reduceLeDiff,Nat.reduceEqDiff,Nat.reduceMul,↓reduceIte];done)|fail) only [sA,↓reduceIte,Nat.reduceLT,Nat.reduceEqDiff,Nat.reduceAdd,Nat.reduceLeDiff,hal,q1,q2]
    exact ⟨_,_,rfl⟩
  by_cases q3 : k < 0
  · rw [f3_eq]; unfold c3; rw [callFn_eq (by rfl)]
    simp (disch:=first|assumption|omega|(simp (disch:=first|assumption|omega) only [sB,Nat.reduceAdd,Nat.reduceLT,Nat.reduceLeDiff,Nat.reduceEqDiff,Nat.reduceMul,↓reduceIte];done)|fail) only [sA,↓reduceIte,Nat.reduceLT,Nat.reduceEqDiff,Nat.reduceAdd,Nat.reduceLeDiff,hal,q1,q2,q3]
    exact ⟨_,_,rfl⟩
  by_cases q4 : k > 40
  · rw [f3_eq]; unfold c3; rw [callFn_eq (by rfl)]
    simp (disch:=first|assumption|omega|(simp (disch:=first|assumption|omega) only [sB,Nat.reduceAdd,Nat.reduceLT,Nat.reduceLeDiff,Nat.reduceEqDiff,Nat.reduceMul,↓reduceIte];done)|fail) only [sA,↓reduceIte,Nat.reduceLT,Nat.reduceEqDiff,Nat.reduceAdd,Nat.reduceLeDiff,hal,q1,q2,q3,q4]
    exact ⟨_,_,rfl⟩
  obtain ⟨N',rfl⟩ := Int.eq_ofNat_of_zero_le (show 0 ≤ N by omega)
  obtain ⟨k',rfl⟩ := Int.eq_ofNat_of_zero_le (show 0 ≤ k by omega)
  exact qDeep (n := 0) (h := []) (fun _ _ => good_nil) hal (by omega) (by omega) (by omega)
end Go.Proofs.YtpbpmpabndgeeaaDoor
