/- The printer's terms: variables, sorts, rows of lambdas. No condition but lengths. -/
import Derived.Test.YtpbpmpabndgeeaaDoorPU
set_option linter.unusedSimpArgs false
set_option linter.unusedVariables false
namespace Go.Proofs.YtpbpmpabndgeeaaDoor
open Go

theorem Pst.get {h : Hps} {r q : Nat} {S : List Nat} (P : Pst r S q h) : ∃ a b,getO h r = .tob tPr (.agg [a,b]) ∧ ∀ m g,okD m g b = .ok b m g ∧ lenD m g .slice b = .ok (.int .i64 (S.length : Nat)) m g := by
  rcases P with ⟨rfl,_,a,g1,_⟩ | ⟨_,_,g1,_⟩
  · exact ⟨_,_,g1,fun m g => ⟨rfl,rfl⟩⟩
  · exact ⟨_,_,g1,fun m g => ⟨rfl,rfl⟩⟩
set_option maxHeartbeats 4000000 in
theorem pLen {n : Nat} {h : Hps} (hg : Gd n h) {r q : Nat} {S : List Nat} (P : Pst r S q h) : callFn (LX (cF Tryd.prog)) n h [.ptr r 0 0] (cF Tryd.prog 17) = .ok (.int .i64 (S.length : Nat)) n h := by
  have hgn := hg n (Nat.le_refl _)
  obtain ⟨a,b,g1,hb⟩ := P.get
  have o1 := fun m g => (hb m g).1
  have o2 := fun m g => (hb m g).2
  rw [f17_eq]; unfold c17; rw [callFn_eq (by rfl)]
  simp (disch:=first|assumption|omega|(simp (disch:=first|assumption|omega) only [sB,Nat.reduceAdd,Nat.reduceLT,Nat.reduceLeDiff,Nat.reduceEqDiff,Nat.reduceMul,↓reduceIte];done)|fail) only [sA,↓reduceIte,Nat.reduceLT,Nat.reduceEqDiff,Nat.reduceAdd,Nat.reduceLeDiff,g1,loadR_tob1,o1,o2]
def vtxt (k d : Nat) : List Nat := if k < d then 120 :: dig (d - 1 - k) else 102 :: dig (k - d)
set_option maxHeartbeats 4000000 in
theorem pVar {n : Nat} {h : Hps} (hg : Gd n h) {r q : Nat} {S : List Nat} (P : Pst r S q h) {k d : Nat} (hk : k < 100) (hd : d < 100) (hl : S.length < 800000000) :
    POk 400 n h r q S (vtxt k d) (callFn (LX (cF Tryd.prog)) n h [.ptr r 0 0,.agg [.int .i64 1,.int .i64 (k : Nat),.bool false,.str [],.nils,.nils],.int .i64 (d : Nat)] (cF Tryd.prog 18)) := by
  have hgn := hg n (Nat.le_refl _)
  obtain ⟨hr,hq⟩ := P.lt hg
  have H0 : Hp n h (n + 1) ((n,.row 6 [.agg [.int .i64 1,.int .i64 (k : Nat),.bool false,.str [],.nils,.nils]]) :: h) := (Hp.start hg).box (r := n) (m := n + 1) (Nat.le_refl _) (by omega) (flatTA (varT k))
  unfold vtxt
  by_cases h1 : k < d
  · have q1 : ((k : Nat) : Int) < ((d : Nat) : Int) := by omega
    obtain ⟨n1,h1',q1',e1,s1,P1,i1,j1,b1⟩ := put1 (n := n + 8) (fun k hk => H0.good k (by omega)) (P.cons hg (Nat.le_refl n)) (s := [120]) (by simp) (by simp; omega)
    have k1 : getO h1' n = .row 6 [.agg [.int .i64 1,.int .i64 (k : Nat),.bool false,.str [],.nils,.nils]] := by rw [s1.keep n (by omega) (by omega) (by omega),getO_hd]
    have := s1.le
    obtain ⟨n2,h2',q2',e2,s2,P2,i2,j2,b2⟩ := pNum (n := n1 + 8) (fun k hk => s1.good k (by omega)) P1 (v := d - 1 - k) (by omega) (by simp; omega)
    have := s2.le
    rw [show ((d - 1 - k : Nat) : Int) = (d : Nat) - 1 - (k : Nat) by omega] at e2
    rw [if_pos h1]
    rw [f18_eq]; unfold c18; rw [callFn_eq (by rfl)]
    simp (disch:=first|assumption|omega|(simp (disch:=first|assumption|omega) only [sB,Nat.reduceAdd,Nat.reduceLT,Nat.reduceLeDiff,Nat.reduceEqDiff,Nat.reduceMul,↓reduceIte,getO_tl];done)|fail) only [sA,↓reduceIte,Nat.reduceLT,Nat.reduceEqDiff,Nat.reduceAdd,Nat.reduceLeDiff,q1,e1,k1,e2,getO_tl]
    exact pok_end hr P2 (by simp) (by omega) (by omega) (fun k hk => s2.good k (by omega)) (fun x a b c => by rw [s2.keep x (by omega) b (by omega),s1.keep x (by omega) b c,getO_tl (by omega)]) (by omega)
  · have q1 : ¬ ((k : Nat) : Int) < ((d : Nat) : Int) := by omega
    obtain ⟨n1,h1',q1',e1,s1,P1,i1,j1,b1⟩ := put1 (n := n + 8) (fun k hk => H0.good k (by omega)) (P.cons hg (Nat.le_refl n)) (s := [102]) (by simp) (by simp; omega)
    have k1 : getO h1' n = .row 6 [.agg [.int .i64 1,.int .i64 (k : Nat),.bool false,.str [],.nils,.nils]] := by rw [s1.keep n (by omega) (by omega) (by omega),getO_hd]
    have := s1.le
    obtain ⟨n2,h2',q2',e2,s2,P2,i2,j2,b2⟩ := pNum (n := n1 + 7) (fun k hk => s1.good k (by omega)) P1 (v := k - d) (by omega) (by simp; omega)
    have := s2.le
    rw [show ((k - d : Nat) : Int) = (k : Nat) - (d : Nat) by omega] at e2
    rw [if_neg h1]
    rw [f18_eq]; unfold c18; rw [callFn_eq (by rfl)]
    simp (disch:=first|assumption|omega|(simp (disch:=first|assumption|omega) only [sB,Nat.reduceAdd,Nat.reduceLT,Nat.reduceLeDiff,Nat.reduceEqDiff,Nat.reduceMul,↓reduceIte,getO_tl];done)|fail) only [sA,↓reduceIte,Nat.reduceLT,Nat.reduceEqDiff,Nat.reduceAdd,Nat.reduceLeDiff,q1,e1,k1,e2,getO_tl]
    exact pok_end hr P2 (by simp) (by omega) (by omega) (fun k hk => s2.good k (by omega)) (fun x a b c => by rw [s2.keep x (by omega) b (by omega),s1.keep x (by omega) b c,getO_tl (by omega)]) (by omega)
set_option maxHeartbeats 4000000 in
theorem pLvl {n : Nat} {h : Hps} (hg : Gd n h) {r q : Nat} {S : List Nat} (P : Pst r S q h) (hl : S.length < 800000000) :
    POk 300 n h r q S [48] (callFn (LX (cF Tryd.prog)) n h [.ptr r 0 0,.agg [.int .i64 0,.nils]] (cF Tryd.prog 38)) := by
  have hgn := hg n (Nat.le_refl _)
  obtain ⟨hr,hq⟩ := P.lt hg
  have H0 : Hp n h (n + 1) ((n,.row 2 [.agg [.int .i64 0,.nils]]) :: h) := (Hp.start hg).box (r := n) (m := n + 1) (Nat.le_refl _) (by omega) rfl
  obtain ⟨n1,h1',q1',e1,s1,P1,i1,j1,b1⟩ := pNum (n := n + 9) (fun k hk => H0.good k (by omega)) (P.cons hg (Nat.le_refl n)) (v := 0) (by omega) (by omega)
  replace e1 : callFn (LX (cF Tryd.prog)) (n + 9) ((n,.row 2 [.agg [.int .i64 0,.nils]]) :: h) [.ptr r 0 0,.int .i64 0] (cF Tryd.prog 37) = .ok (.tup []) n1 h1' := e1
  have := s1.le
  rw [f38_eq]; unfold c38; rw [callFn_eq (by rfl)]
  simp (disch:=first|assumption|omega|(simp (disch:=first|assumption|omega) only [sB,Nat.reduceAdd,Nat.reduceLT,Nat.reduceLeDiff,Nat.reduceEqDiff,Nat.reduceMul,↓reduceIte,getO_tl];done)|fail) only [sA,↓reduceIte,Nat.reduceLT,Nat.reduceEqDiff,Nat.reduceAdd,Nat.reduceLeDiff,e1,getO_tl]
  exact pok_end hr P1 rfl (by omega) (by omega) (fun k hk => s1.good k (by omega)) (fun x a b c => by rw [s1.keep x (by omega) b c,getO_tl (by omega)]) (by omega)
set_option maxHeartbeats 4000000 in
theorem pSort {n : Nat} {h : Hps} (hg : Gd n h) {r q : Nat} {S : List Nat} (P : Pst r S q h) {d : Nat} (hl : S.length < 700000000) :
    POk 600 n h r q S [83,101,116,32,48] (callFn (LX (cF Tryd.prog)) n h [.ptr r 0 0,.agg [.int .i64 2,.int .i64 0,.bool false,.str [],.sl 2 [.agg [.int .i64 0,.nils]] [] true,.nils],.int .i64 (d : Nat)] (cF Tryd.prog 19)) := by
  have hgn := hg n (Nat.le_refl _)
  obtain ⟨hr,hq⟩ := P.lt hg
  have H0 : Hp n h (n + 1) ((n,.row 6 [.agg [.int .i64 2,.int .i64 0,.bool false,.str [],.sl 2 [.agg [.int .i64 0,.nils]] [] true,.nils]]) :: h) := (Hp.start hg).box (r := n) (m := n + 1) (Nat.le_refl _) (by omega) (flatTA set0)
  have c2 : ∀ m g,iaddrD m g 2 (.sl 2 [.agg [.int .i64 0,.nils]] [] true) 0 = .ok (.ip (.agg [.int .i64 0,.nils]) 0) m g := fun _ _ => rfl
  obtain ⟨n1,h1',q1',e1,s1,P1,i1,j1,b1⟩ := put1 (n := n + 4) (fun k hk => H0.good k (by omega)) (P.cons hg (Nat.le_refl n)) (s := [83,101,116,32]) (by simp) (by simp; omega)
  have k1 : getO h1' n = .row 6 [.agg [.int .i64 2,.int .i64 0,.bool false,.str [],.sl 2 [.agg [.int .i64 0,.nils]] [] true,.nils]] := by rw [s1.keep n (by omega) (by omega) (by omega),getO_hd]
  have := s1.le
  obtain ⟨n2,h2',q2',e2,s2,P2,i2,j2,b2⟩ := pLvl (n := n1 + 7) (fun k hk => s1.good k (by omega)) P1 (by simp; omega)
  have := s2.le
  rw [f19_eq]; unfold c19; rw [callFn_eq (by rfl)]
  simp (disch:=first|assumption|omega|(simp (disch:=first|assumption|omega) only [sB,Nat.reduceAdd,Nat.reduceLT,Nat.reduceLeDiff,Nat.reduceEqDiff,Nat.reduceMul,↓reduceIte,getO_tl];done)|fail) only [sA,↓reduceIte,Nat.reduceLT,Nat.reduceEqDiff,Nat.reduceAdd,Nat.reduceLeDiff,e1,k1,c2,e2,getO_tl]
  exact pok_end hr P2 (by simp) (by omega) (by omega) (fun k hk => s2.good k (by omega)) (fun x a b c => by rw [s2.keep x (by omega) b (by omega),s1.keep x (by omega) b c,getO_tl (by omega)]) (by omega)
end Go.Proofs.YtpbpmpabndgeeaaDoor
