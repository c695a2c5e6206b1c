/- SplitColumns: the function in parts. No condition. -/
import Derived.Test.YtknnbjoagigmgaaGreatUC
import Derived.Test.YtknnbjoagigmgaaGreatEB
set_option linter.unusedSimpArgs false
set_option linter.unusedVariables false
namespace Go.Proofs.YtknnbjoagigmgaaGreat
open Go
set_option maxRecDepth 100000

noncomputable def scCnd : QC := (qCond (s x44) (qSeq (qReg [o1 x45 (qMv (s x5)),o1 x4 (qMv (s x45))]) qRet) qSkip)
noncomputable def scPre (m : QC) : QC := (qSeq (qReg [o1 x4 (qMv (k (.bool .false)))]) (qSeq (qReg [o1 x17 (qCall (k (.fn 15 [] [])) []),o1 x5 (qMv (s x17))]) (qSeq (qReg [o1 x19 (qCall (k (.fn 10 [] [])) []),o1 x18 (qMv (s x19)),o1 x20 (qExt (s x18) 0),o1 x21 (qExt (s x18) 1),o1 x22 (qExt (s x18) 2),o1 x6 (qMv (s x20)),o1 x7 (qMv (s x21)),o1 x8 (qMv (s x22))]) (qSeq (qSeq (qReg [o1 x23 (qMv (s x5)),o1 x24 (qNot (s x23)),o1 x25 (qMv (s x24)),o2 x26 x25 .false (qMv (s x8)),o2 x27 x25 .false (qNot (s x26)),o1 x28 (qPick (s x25) (k (.bool .true)) (s x27)),o1 x29 (qMv (s x28)),o2 x30 x29 .false (qMv (s x0)),o2 x31 x29 .false (qLss (s x30) (k (.int .i64 1))),o1 x32 (qPick (s x29) (k (.bool .true)) (s x31)),o1 x33 (qMv (s x32)),o2 x34 x33 .false (qMv (s x0)),o2 x35 x33 .false (qGtr (s x34) (k (.int .i64 4))),o1 x36 (qPick (s x33) (k (.bool .true)) (s x35)),o1 x37 (qMv (s x36)),o2 x38 x37 .false (qMv (s x1)),o2 x39 x37 .false (qLss (s x38) (k (.int .i64 0))),o1 x40 (qPick (s x37) (k (.bool .true)) (s x39)),o1 x41 (qMv (s x40)),o2 x42 x41 .false (qMv (s x1)),o2 x43 x41 .false (qGtr (s x42) (k (.int .i64 1000))),o1 x44 (qPick (s x41) (k (.bool .true)) (s x43))]) scCnd) m))))
noncomputable def scMid (m : QC) : QC := (qSeq (qReg [o1 x9 (qMv (k .nils))]) (qSeq (qSeq (qReg [o1 x10 (qMv (k (.int .i64 0)))]) (qBlock 0 (qLoop (qSeq (qSeq (qReg [o1 x46 (qMv (s x10)),o1 x47 (qMv (s x0)),o1 x48 (qBin .shl (k (.int .i64 1)) (s x47)),o1 x49 (qLss (s x46) (s x48))]) (qCond (s x49) qSkip (qExit 0))) (qSeq (qBlock 1 (qReg [o1 x52 (qMv (s x9)),o1 x53 (qMv (s x0)),o1 x54 (qMv (s x10)),o1 x55 (qCall (k (.fn 23 [] [])) [(s x53),(s x54)]),o1 x56 (qBsl 1 [(s x55)]),o1 x57 (qApp 1 24 (s x52) (s x56)),o1 x9 (qMv (s x57))])) (qReg [o1 x50 (qMv (s x10)),o1 x51 (qAdd (s x50) (k (.int .i64 1))),o1 x10 (qMv (s x51))])))))) (qSeq (qReg [o1 x59 (qMv (s x6)),o1 x60 (qMv (s x9)),o1 x61 (qCall (k (.fn 21 [] [])) [(s x59),(s x60)]),o1 x58 (qMv (s x61)),o1 x62 (qExt (s x58) 0),o1 x63 (qExt (s x58) 1),o1 x11 (qNew 5 (.agg [(.bool .false),(.int .i64 0),(.int .i64 0),.nils,.nils])),o0 (qStore .true 5 (s x11) (s x62)),o1 x12 (qMv (s x63))]) (qSeq (qSeq (qReg [o1 x64 (qMv (s x12)),o1 x65 (qCall (k (.fn 22 [] [])) [(s x64)]),o1 x66 (qNeq (s x65) (k (.int .i64 0)))]) (qCond (s x66) (qSeq (qReg [o1 x67 (qMv (s x12)),o1 x68 (qCall (k (.fn 22 [] [])) [(s x67)]),o1 x69 (qEql (s x68) (k (.int .i64 2))),o1 x70 (qMv (s x69)),o2 x71 x70 .true (qMv (s x0)),o2 x72 x70 .true (qGtr (s x71) (k (.int .i64 2))),o1 x73 (qPick (s x70) (s x72) (k (.bool .false))),o1 x4 (qMv (s x73))]) qRet) qSkip)) m))))
noncomputable def scFin : QC := (qSeq (qDraw [[],[],[],[],[],[],[5],[],[],[],[],[],[]] [.false,.false,.false,.false,.false,.false,.false,.true,.true,.true,.true,.true,.true] [o1 x75 (qLoad .true 5 (s x11)),o1 x76 (qMv (s x0)),o1 x77 (qMv (s x1)),o1 x78 (qMv (s x0)),o1 x79 (qBin .shl (k (.int .i64 1)) (s x78)),o1 x80 (qRem (s x77) (s x79)),o1 x81 (qCall (k (.fn 23 [] [])) [(s x76),(s x80)]),o1 x82 (qCall (k (.fn 17 [] [])) [(s x75),(s x81)]),o1 x74 (qMv (s x82)),o1 x83 (qExt (s x74) 0),o1 x84 (qExt (s x74) 1),o1 x13 (qMv (s x83)),o1 x14 (qMv (s x84))]) (qSeq (qReg [o1 x86 (qMv (s x6)),o1 x87 (qMv (s x9)),o1 x88 (qSlice 1 (s x87) (some (k (.int .i64 1))) none none),o1 x89 (qCall (k (.fn 21 [] [])) [(s x86),(s x88)]),o1 x85 (qMv (s x89)),o1 x90 (qExt (s x85) 0),o1 x91 (qExt (s x85) 1),o1 x15 (qNew 5 (.agg [(.bool .false),(.int .i64 0),(.int .i64 0),.nils,.nils])),o0 (qStore .true 5 (s x15) (s x90)),o1 x16 (qMv (s x91))]) (qSeq (qReg [o1 x92 (qMv (s x14)),o1 x93 (qMv (s x92)),o2 x94 x93 .true (qMv (s x13)),o2 x95 x93 .true (qMv (s x1)),o2 x96 x93 .true (qMv (s x0)),o2 x97 x93 .true (qBin .shl (k (.int .i64 1)) (s x96)),o2 x98 x93 .true (qRem (s x95) (s x97)),o2 x99 x93 .true (qEql (s x94) (s x98)),o1 x100 (qPick (s x93) (s x99) (k (.bool .false))),o1 x101 (qMv (s x100)),o2 x102 x101 .true (qMv (s x16)),o2 x103 x101 .true (qCall (k (.fn 22 [] [])) [(s x102)]),o2 x104 x101 .true (qEql (s x103) (k (.int .i64 54))),o2 x105 x101 .true (qMv (s x104)),o2 x106 x105 .false (qMv (s x16)),o2 x107 x105 .false (qCall (k (.fn 22 [] [])) [(s x106)]),o2 x108 x105 .false (qEql (s x107) (k (.int .i64 2))),o2 x109 x105 .false (qMv (s x108)),o2 x110 x109 .true (qMv (s x0)),o2 x111 x109 .true (qGtr (s x110) (k (.int .i64 2))),o2 x112 x105 .false (qPick (s x109) (s x111) (k (.bool .false))),o2 x113 x101 .true (qPick (s x105) (k (.bool .true)) (s x112)),o1 x114 (qPick (s x101) (s x113) (k (.bool .false))),o1 x4 (qMv (s x114))]) qRet)))
noncomputable def scF : QF := ⟨scPre (scMid scFin),[x0,x1],[.tmp x4],false⟩
noncomputable def scC (M : List ME) : CallF := cq M uC 100000 100000
theorem sc_look (K : QF → Rd) : uC.look 6 K = K scF := by kernel_rfl
theorem sc_join {M : List ME} {n : D} {v : Nat} {A : D → Bool → QE} {B : D → QE} {n1 n2 : Nat} {h1 h2 : Hps} (a : ∀ Q : QC,(scPre Q).f (scC M) 100000 (argsq [n,.int .i64 (.ofNat v)] scF.ps) 0 [] = thenq (Q.f (scC M) 100000) (scCnd.f (scC M) 100000 (A (.int .i64 (.ofNat v)) (Nat.ble 1001 v)) n1 h1))
    (b : ∀ (x : D) (Q : QC),thenq (Q.f (scC M) 100000) (scCnd.f (scC M) 100000 (A x false) n1 h1) = Q.f (scC M) 100000 (A x false) n1 h1)
    (m : ∀ (x : D) (Q : QC),(scMid Q).f (scC M) 100000 (A x false) n1 h1 = Q.f (scC M) 100000 (B x) n2 h2) (hv : v < 1001)
    (c : isB true (finq false 0 scF.res (scFin.f (scC M) 100000 (B (.int .i64 (.ofNat v))) n2 h2)) = true) : isB true (runQ M uC 100000 6 0 [n,.int .i64 (.ofNat v)]) = true := by
  have hb : Nat.ble 1001 v = false := by
    cases h : Nat.ble 1001 v with
    | false => rfl
    | true => have := Nat.le_of_ble_eq_true h; omega
  have a' := a (scMid scFin)
  rw [hb,b] at a'
  rw [← m,← a'] at c
  have e : runQ M uC 100000 6 0 [n,.int .i64 (.ofNat v)] = callFnq (scC M) 100000 0 [] [n,.int .i64 (.ofNat v)] scF := sc_look _
  rw [e]
  exact c
noncomputable def allP (p : Nat → Bool) (k s : Nat) : Bool := (Nat.rec (motive := fun _ => Nat → Bool) (fun _ => true) (fun _ ih s => Bool.rec (motive := fun _ => Bool) false (ih (s + 1)) (p s)) k) s
theorem allP_ok {p : Nat → Bool} : ∀ {k s : Nat},allP p k s = true → ∀ v,s ≤ v → v < s + k → p v = true
  | 0,s,_,v,h1,h2 => absurd h2 (Nat.not_lt.2 h1)
  | k + 1,s,h,v,h1,h2 => by
    have h' : Bool.rec (motive := fun _ => Bool) false (allP p k (s + 1)) (p s) = true := h
    cases hb : p s with
    | false => rw [hb] at h'; cases h'
    | true =>
      rw [hb] at h'
      rcases Nat.eq_or_lt_of_le h1 with rfl | h1
      · exact hb
      · exact allP_ok h' v h1 (by omega)

end Go.Proofs.YtknnbjoagigmgaaGreat
