/- What the law calls: sorts, variables, digits. No condition but lengths. -/
import Derived.Test.YtpbpmpabndgeeaaDoorPT2
set_option linter.unusedSimpArgs false
set_option linter.unusedVariables false
namespace Go.Proofs.YtpbpmpabndgeeaaDoor
open Go

set_option maxHeartbeats 4000000 in
theorem qSet {n : Nat} {h : Hps} (hg : Gd n h) : callFn (LX (cF Tryd.prog)) n h [.int .i64 0] (cF Tryd.prog 6) = .ok (.agg [.int .i64 2,.int .i64 0,.bool false,.str [],.sl 2 [.agg [.int .i64 0,.nils]] [] true,.nils]) n h := by
  have hgn := hg n (Nat.le_refl _)
  rw [f6_eq]; unfold c6; rw [callFn_eq (by rfl)]
  simp (disch:=first|assumption|omega|(simp (disch:=first|assumption|omega) only [sB,Nat.reduceAdd,Nat.reduceLT,Nat.reduceLeDiff,Nat.reduceEqDiff,Nat.reduceMul,↓reduceIte];done)|fail) only [sA,↓reduceIte,Nat.reduceLT,Nat.reduceEqDiff,Nat.reduceAdd,Nat.reduceLeDiff]
  done
set_option maxHeartbeats 4000000 in
theorem qVar {n : Nat} {h : Hps} (hg : Gd n h) (k : Nat) : callFn (LX (cF Tryd.prog)) n h [.int .i64 (k : Nat)] (cF Tryd.prog 5) = .ok (.agg [.int .i64 1,.int .i64 (k : Nat),.bool false,.str [],.nils,.nils]) n h := by
  have hgn := hg n (Nat.le_refl _)
  rw [f5_eq]; unfold c5; rw [callFn_eq (by rfl)]
  simp (disch:=first|assumption|omega|(simp (disch:=first|assumption|omega) only [sB,Nat.reduceAdd,Nat.reduceLT,Nat.reduceLeDiff,Nat.reduceEqDiff,Nat.reduceMul,↓reduceIte];done)|fail) only [sA,↓reduceIte,Nat.reduceLT,Nat.reduceEqDiff,Nat.reduceAdd,Nat.reduceLeDiff]
  done
set_option maxHeartbeats 4000000 in
theorem qMax {n : Nat} {h : Hps} (hg : Gd n h) (a b : Int) : callFn (LX (cF Tryd.prog)) n h [.int .i64 a,.int .i64 b] (cF Tryd.prog 8) = .ok (.int .i64 (if a < b then b else a)) n h := by
  have hgn := hg n (Nat.le_refl _)
  rw [f8_eq]; unfold c8; rw [callFn_eq (by rfl)]
  by_cases q : a < b
  · simp (disch:=first|assumption|omega|(simp (disch:=first|assumption|omega) only [sB,Nat.reduceAdd,Nat.reduceLT,Nat.reduceLeDiff,Nat.reduceEqDiff,Nat.reduceMul,↓reduceIte];done)|fail) only [sA,↓reduceIte,Nat.reduceLT,Nat.reduceEqDiff,Nat.reduceAdd,Nat.reduceLeDiff,q]
  · simp (disch:=first|assumption|omega|(simp (disch:=first|assumption|omega) only [sB,Nat.reduceAdd,Nat.reduceLT,Nat.reduceLeDiff,Nat.reduceEqDiff,Nat.reduceMul,↓reduceIte];done)|fail) only [sA,↓reduceIte,Nat.reduceLT,Nat.reduceEqDiff,Nat.reduceAdd,Nat.reduceLeDiff,q]
theorem str_add {a b : List Nat} (h : a.length + b.length < 1000000000) : binD .add (.str a) (.str b) = .str (a ++ b) := by
  show Bool.rec (motive := fun _ => D) .junk (.str (appN a b)) (Nat.blt (lenN a + lenN b) two62) = _
  rw [appN_eq,lenN_eq,lenN_eq,blt_iff,show two62 = 4611686018427387904 from rfl,decide_eq_true (by omega)]
theorem cutD_ok : ∀ w,w < 10 → takeN (w + 1 - w) (dropN w [48,49,50,51,52,53,54,55,56,57]) = [48 + w] := by decide +kernel
theorem slD10 {w m : Nat} {g : Hps} (h : w < 10) : slS m g [48,49,50,51,52,53,54,55,56,57] w (w + 1) = .ok (.str [48 + w]) m g := by
  show ifR (Bool.and (Nat.ble (w + 1) 10) (Nat.ble w (w + 1))) (.ok (.str (takeN (w + 1 - w) (dropN w [48,49,50,51,52,53,54,55,56,57]))) m g) = _
  rw [cutD_ok w h,ble_iff,ble_iff,decide_eq_true (by omega),decide_eq_true (by omega)]; rfl
theorem rem10 {v : Nat} : binD .rem (.int .i64 (v : Nat)) (.int .i64 10) = .int .i64 ((v % 10 : Nat) : Int) := rfl
theorem quo10 {v : Nat} (h : v < 1000) : binD .quo (.int .i64 (v : Nat)) (.int .i64 10) = .int .i64 ((v / 10 : Nat) : Int) := by
  show D.int .i64 (wr .i64 ((v / 10 : Nat) : Int)) = _
  rw [wr_in (by omega) (by omega)]
set_option maxHeartbeats 4000000 in
theorem qDig1 {n : Nat} {h : Hps} (hg : Gd n h) {v : Nat} (hv : v < 10) : callFn (LX (cF Tryd.prog)) n h [.int .i64 (v : Nat)] (cF Tryd.prog 7) = .ok (.str [48 + v]) n h := by
  have hgn := hg n (Nat.le_refl _)
  have q1 : ¬ ((v : Nat) : Int) > 9 := by omega
  have e : v % 10 = v := by omega
  have c1 := fun m g => slD10 (m := m) (g := g) (w := v) hv
  have r1 := rem10 (v := v)
  rw [e] at r1
  rw [f7_eq]; unfold c7; rw [callFn_eq (by rfl)]
  simp (disch:=first|assumption|omega|(simp (disch:=first|assumption|omega) only [sB,Nat.reduceAdd,Nat.reduceLT,Nat.reduceLeDiff,Nat.reduceEqDiff,Nat.reduceMul,↓reduceIte];done)|fail) only [sA,↓reduceIte,Nat.reduceLT,Nat.reduceEqDiff,Nat.reduceAdd,Nat.reduceLeDiff,q1,r1,ssl_eq,c1]
set_option maxHeartbeats 4000000 in
theorem qDig {n : Nat} {h : Hps} (hg : Gd n h) {v : Nat} (hv : v < 100) : callFn (LX (cF Tryd.prog)) n h [.int .i64 (v : Nat)] (cF Tryd.prog 7) = .ok (.str (dig v)) n h := by
  by_cases h9 : v < 10
  · rw [qDig1 hg h9]; unfold dig; rw [if_pos h9]
  have hgn := hg n (Nat.le_refl _)
  have q1 : ((v : Nat) : Int) > 9 := by omega
  have r1 := rem10 (v := v)
  have r2 := quo10 (v := v) (by omega)
  have c1 := fun m g => slD10 (m := m) (g := g) (w := v % 10) (by omega)
  have c2 := fun m (hm : n ≤ m) => qDig1 (n := m) (h := h) (fun k hk => hg k (by omega)) (v := v / 10) (by omega)
  have e : dig v = [48 + v / 10,48 + v % 10] := by unfold dig; rw [if_neg h9]
  rw [e]
  rw [f7_eq]; unfold c7; rw [callFn_eq (by rfl)]
  have a1 : binD .add (.str [48 + v / 10]) (.str [48 + v % 10]) = .str [48 + v / 10,48 + v % 10] := str_add (by simp)
  simp (disch:=first|assumption|omega|(simp (disch:=first|assumption|omega) only [sB,Nat.reduceAdd,Nat.reduceLT,Nat.reduceLeDiff,Nat.reduceEqDiff,Nat.reduceMul,↓reduceIte];done)|fail) only [sA,↓reduceIte,Nat.reduceLT,Nat.reduceEqDiff,Nat.reduceAdd,Nat.reduceLeDiff,q1,r1,r2,ssl_eq,c1,c2,a1]
end Go.Proofs.YtpbpmpabndgeeaaDoor
