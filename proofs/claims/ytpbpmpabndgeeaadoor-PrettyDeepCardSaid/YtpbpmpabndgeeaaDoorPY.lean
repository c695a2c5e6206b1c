/- The printer on a lambda. No condition but lengths. -/
import Derived.Test.YtpbpmpabndgeeaaDoorPX
set_option linter.unusedSimpArgs false
set_option linter.unusedVariables false
namespace Go.Proofs.YtpbpmpabndgeeaaDoor
open Go

set_option maxHeartbeats 4000000 in
theorem pLam {hid : Bool} {A B : Tm} {d CA CB : Nat} {TA TB : List Nat} (hA : TOk A d TA CA) (hB : TOk B (d + 1) TB CB) (hd : d < 100)
    {n : Nat} {h : Hps} (hg : Gd n h) {r q : Nat} {S : List Nat} (P : Pst r S q h) (hl : S.length + (ltxt hid d TA TB).length < 1000000) :
    POk (3000 + CA + CB) n h r q S (ltxt hid d TA TB) (callFn (LX (cF Tryd.prog)) n h [.ptr r 0 0,(D.agg [.int .i64 (lamA hid A B).form,.int .i64 (lamA hid A B).n,.bool (lamA hid A B).hid,.str (lamA hid A B).name,slD 2 encL (lamA hid A B).levels,slD 6 encT (lamA hid A B).kids]),.int .i64 (d : Nat)] (cF Tryd.prog 21)) := by
  have hgn := hg n (Nat.le_refl _)
  obtain ⟨hr,hq⟩ := P.lt hg
  obtain ⟨K,hK⟩ : ∃ K : List D,K = [encT A,encT B] := ⟨_,rfl⟩
  have hT : (D.agg [.int .i64 (lamA hid A B).form,.int .i64 (lamA hid A B).n,.bool (lamA hid A B).hid,.str (lamA hid A B).name,slD 2 encL (lamA hid A B).levels,slD 6 encT (lamA hid A B).kids]) = .agg [.int .i64 4,.int .i64 0,.bool hid,.str [],.nils,.sl 6 K [] true] := by rw [hK]; rfl
  have H0 : Hp n h (n + 1) ((n,(Ob.row 6 [.agg [.int .i64 (lamA hid A B).form,.int .i64 (lamA hid A B).n,.bool (lamA hid A B).hid,.str (lamA hid A B).name,slD 2 encL (lamA hid A B).levels,slD 6 encT (lamA hid A B).kids]])) :: h) := (Hp.start hg).box (r := n) (m := n + 1) (Nat.le_refl _) (by omega) (flatTA _)
  have hTB : (Ob.row 6 [.agg [.int .i64 (lamA hid A B).form,.int .i64 (lamA hid A B).n,.bool (lamA hid A B).hid,.str (lamA hid A B).name,slD 2 encL (lamA hid A B).levels,slD 6 encT (lamA hid A B).kids]]) = .row 6 [.agg [.int .i64 4,.int .i64 0,.bool hid,.str [],.nils,.sl 6 K [] true]] := by rw [hK]; rfl
  rw [hTB] at H0
  have pb := fun n h hg r q S P hl => pBind (hid := hid) hA hB hd (n := n) (h := h) hg (r := r) (q := q) (S := S) P hl
  rw [hT] at pb ⊢
  obtain ⟨n1,h1',q1',e1,s1,P1,i1,j1,b1⟩ := pb (n + 5) _ (fun k hk => H0.good k (by omega)) _ _ _ (P.cons hg (Nat.le_refl n)) hl
  have := s1.le
  rw [f21_eq]; unfold c21; rw [callFn_eq (by rfl)]
  simp (disch:=first|assumption|omega|(simp (disch:=first|assumption|omega) only [sB,Nat.reduceAdd,Nat.reduceLT,Nat.reduceLeDiff,Nat.reduceEqDiff,Nat.reduceMul,↓reduceIte,getO_tl];done)|fail) only [sA,↓reduceIte,Nat.reduceLT,Nat.reduceEqDiff,Nat.reduceAdd,Nat.reduceLeDiff,e1,getO_tl]
  exact pok_end hr P1 rfl (by omega) (by omega) (fun k hk => s1.good k (by omega)) (fun x a b c => by rw [s1.keep x (by omega) b c,getO_tl (by omega)]) (by omega)
set_option maxHeartbeats 4000000 in
theorem tLam {n : Nat} {h : Hps} (hg : Gd n h) {r q : Nat} {S : List Nat} (P : Pst r S q h) {d : Nat} {hid : Bool} {A B : Tm} {CA CB : Nat} {TA TB : List Nat} (hA : TOk A d TA CA) (hB : TOk B (d + 1) TB CB) (hd : d < 100) (hC : CA + CB + 10000 ≤ strN 4 d) (hl : S.length + (ltxt hid d TA TB).length < 1000000) :
    POk (9 * strN 4 d) n h r q S (ltxt hid d TA TB) (callFn (LX (cF Tryd.prog)) n h [.ptr r 0 0,(D.agg [.int .i64 (lamA hid A B).form,.int .i64 (lamA hid A B).n,.bool (lamA hid A B).hid,.str (lamA hid A B).name,slD 2 encL (lamA hid A B).levels,slD 6 encT (lamA hid A B).kids]),.int .i64 (d : Nat)] (cF Tryd.prog 12)) := by
  have hgn := hg n (Nat.le_refl _)
  obtain ⟨hr,hq⟩ := P.lt hg
  obtain ⟨K,hK⟩ : ∃ K : List D,K = [encT A,encT B] := ⟨_,rfl⟩
  have hT : (D.agg [.int .i64 (lamA hid A B).form,.int .i64 (lamA hid A B).n,.bool (lamA hid A B).hid,.str (lamA hid A B).name,slD 2 encL (lamA hid A B).levels,slD 6 encT (lamA hid A B).kids]) = .agg [.int .i64 4,.int .i64 0,.bool hid,.str [],.nils,.sl 6 K [] true] := by rw [hK]; rfl
  have hTB : (Ob.row 6 [.agg [.int .i64 (lamA hid A B).form,.int .i64 (lamA hid A B).n,.bool (lamA hid A B).hid,.str (lamA hid A B).name,slD 2 encL (lamA hid A B).levels,slD 6 encT (lamA hid A B).kids]]) = .row 6 [.agg [.int .i64 4,.int .i64 0,.bool hid,.str [],.nils,.sl 6 K [] true]] := by rw [hK]; rfl
  have H0 : Hp n h (n + 1) ((n,(Ob.row 6 [.agg [.int .i64 (lamA hid A B).form,.int .i64 (lamA hid A B).n,.bool (lamA hid A B).hid,.str (lamA hid A B).name,slD 2 encL (lamA hid A B).levels,slD 6 encT (lamA hid A B).kids]])) :: h) := (Hp.start hg).box (r := n) (m := n + 1) (Nat.le_refl _) (by omega) (flatTA _)
  rw [hTB] at H0
  have P0 : Pst r S q ((n,.row 6 [.agg [.int .i64 4,.int .i64 0,.bool hid,.str [],.nils,.sl 6 K [] true]]) :: h) := P.cons hg (Nat.le_refl n)
  have G1 : ∀ m,n + 9 ≤ m → Gd m ((n + 8,.row 12 [.agg ruleL]) :: (n,.row 6 [.agg [.int .i64 4,.int .i64 0,.bool hid,.str [],.nils,.sl 6 K [] true]]) :: h) := fun m hm k hk => good_cons.2 ⟨by omega,rfl,H0.good k (by omega)⟩
  have P1 : Pst r S q ((n + 8,.row 12 [.agg ruleL]) :: (n,.row 6 [.agg [.int .i64 4,.int .i64 0,.bool hid,.str [],.nils,.sl 6 K [] true]]) :: h) := P0.cons (n := n + 1) H0.good (by omega)
  have c1 := fun m (hm : n + 1 ≤ m) => pLen (n := m) (fun k hk => H0.good k (by omega)) P0
  have q1 : ¬ ((S.length : Nat) : Int) > 8000000 := by omega
  have pl := fun n h hg r q S P hl => pLam (hid := hid) hA hB hd (n := n) (h := h) hg (r := r) (q := q) (S := S) P hl
  rw [hT] at pl ⊢
  rw [f12_eq]; unfold c12; rw [callFn_eq (by rfl)]
  simp (disch:=first|assumption|omega|(simp (disch:=first|assumption|omega) only [sB,Nat.reduceAdd,Nat.reduceLT,Nat.reduceLeDiff,Nat.reduceEqDiff,Nat.reduceMul,↓reduceIte,getO_tl];done)|fail) only [sA,↓reduceIte,Nat.reduceLT,Nat.reduceEqDiff,Nat.reduceAdd,Nat.reduceLeDiff,c1,q1,rules_ok,rules_st,getO_tl]
  rw [LX_drawT]
  change POk _ _ _ _ _ _ _ (finish n [] (runDraw (strN 4 d) _ _ _ _ _ _ _ _))
  have hs := strN_big 4 d
  have hs2 := hC
  generalize strN 4 d = sd at hs hs2 ⊢
  obtain ⟨n1,h1',q1',e1,s1,P1,i1,j1,b1⟩ := pl (n + (10 + (sd + (sd + (sd + (sd + (sd + (sd + (sd + 1))))))))) _ (G1 _ (by omega)) _ _ _ P1 hl
  have := s1.le
  have bb : n1 < n + (10 + (sd + (sd + (sd + (sd + (sd + (sd + sd))))))) + sd := by omega
  simp (disch:=first|assumption|omega|(simp (disch:=first|assumption|omega) only [sB,Nat.reduceAdd,Nat.reduceLT,Nat.reduceLeDiff,Nat.reduceEqDiff,Nat.reduceMul,↓reduceIte,getO_tl];done)|fail) only [sA,↓reduceIte,Nat.reduceLT,Nat.reduceEqDiff,Nat.reduceAdd,Nat.reduceLeDiff,pa4,tch_pa,okF4,e1,bb,getO_tl]
  exact pok_end hr P1 rfl (by omega) (by omega) (fun k hk => s1.good k (by omega)) (fun x a b c => by rw [s1.keep x (by omega) b c,getO_tl (by omega),getO_tl (by omega)]) (by omega)
end Go.Proofs.YtpbpmpabndgeeaaDoor
