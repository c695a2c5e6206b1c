/- The printer's terms. No condition but lengths. -/
import Derived.Test.YtpbpmpabndgeeaaDoorPV
set_option linter.unusedSimpArgs false
set_option linter.unusedVariables false
namespace Go.Proofs.YtpbpmpabndgeeaaDoor
open Go

def ruleL : List D := [.nilf,.fn 18 [] [],.fn 19 [] [],.fn 20 [] [],.fn 21 [] [],.fn 22 [] [],.fn 23 [] [],.fn 24 [] [],.fn 25 [] [],.fn 25 [] [],.fn 26 [] [],.fn 27 [] []]
theorem rules_ok : ∀ m g,buildD m g (fld2 1 11 (fld2 1 10 (fld2 1 9 (fld2 1 8 (fld2 1 7 (fld2 1 6 (fld2 1 5 (fld2 1 4 (fld2 1 3 (fld2 1 2 (fld2 1 1 (some [.nilf,.nilf,.nilf,.nilf,.nilf,.nilf,.nilf,.nilf,.nilf,.nilf,.nilf,.nilf]) (cellsX (.fn 18 [] []))) (cellsX (.fn 19 [] []))) (cellsX (.fn 20 [] []))) (cellsX (.fn 21 [] []))) (cellsX (.fn 22 [] []))) (cellsX (.fn 23 [] []))) (cellsX (.fn 24 [] []))) (cellsX (.fn 25 [] []))) (cellsX (.fn 25 [] []))) (cellsX (.fn 26 [] []))) (cellsX (.fn 27 [] []))) = .ok (.agg ruleL) m g := fun _ _ => rfl

def nilA : D := .agg [.nilf,.nilf,.nilf,.nilf,.nilf,.nilf,.nilf,.nilf,.nilf,.nilf,.nilf,.nilf]
theorem rules_st : ∀ r m g,storeR true 12 r 0 0 (.agg ruleL) m ((r,.row 12 [.agg [.nilf,.nilf,.nilf,.nilf,.nilf,.nilf,.nilf,.nilf,.nilf,.nilf,.nilf,.nilf]]) :: g) (.row 12 [.agg [.nilf,.nilf,.nilf,.nilf,.nilf,.nilf,.nilf,.nilf,.nilf,.nilf,.nilf,.nilf]]) = .ok .junk m ((r,.row 12 [.agg ruleL]) :: g) := fun r m g => by
  show Rd.ok .junk m (setO ((r,_) :: g) r (.row 12 [.agg ruleL])) = _
  rw [setO_hd]
theorem pa1 : ∀ r m g,paddrD m g 1 12 (.ptr r 0 0) 1 = .ok (.ptr r 0 1) m g := fun _ _ _ => rfl
theorem pa2 : ∀ r m g,natR (paddrD m g 1 12 (.ptr r 0 0)) (.int .i64 2) = .ok (.ptr r 0 2) m g := fun _ _ _ => rfl
theorem pa4 : ∀ r m g,natR (paddrD m g 1 12 (.ptr r 0 0)) (.int .i64 4) = .ok (.ptr r 0 4) m g := fun _ _ _ => rfl
theorem LX_drawT {F : Nat → DFn} {un : List (List Nat)} {bar : List Bool} {ops : List DOper} {e : Tr} {n : Nat} {h : Hps} : LX F (.drawT un bar ops) e n h = runDraw (strd e) (callX F (LX F)) ops un bar [] e n h := by rw [LX_eq]; rfl
theorem strN_big (f d : Nat) : 1099511627776 ≤ strN f d := by
  have : 2 ^ 40 ≤ 2 ^ (100 * (64 - d) + 20 * f + 40) := Nat.pow_le_pow_right (by omega) (by omega)
  exact this
theorem tch_pa {e : Tr} {n k m : Nat} {x i : Opd} {h h1 : Hps} : touchR e n (.paddr k m x i) h h1 = [] := rfl
theorem okF1 : ∀ m g,okD m g (ruleL.getD 1 D.junk) = .ok (.fn 18 [] []) m g := fun _ _ => rfl
theorem okF2 : ∀ m g,okD m g (ruleL.getD 2 D.junk) = .ok (.fn 19 [] []) m g := fun _ _ => rfl
theorem okF4 : ∀ m g,okD m g (ruleL.getD 4 D.junk) = .ok (.fn 21 [] []) m g := fun _ _ => rfl
set_option maxHeartbeats 4000000 in
theorem tVar {n : Nat} {h : Hps} (hg : Gd n h) {r q : Nat} {S : List Nat} (P : Pst r S q h) {k d : Nat} (hk : k < 100) (hd : d < 100) (hl : S.length < 1000000) :
    POk (9 * strN 1 d) n h r q S (vtxt k d) (callFn (LX (cF Tryd.prog)) n h [.ptr r 0 0,.agg [.int .i64 1,.int .i64 (k : Nat),.bool false,.str [],.nils,.nils],.int .i64 (d : Nat)] (cF Tryd.prog 12)) := by
  have hgn := hg n (Nat.le_refl _)
  obtain ⟨hr,hq⟩ := P.lt hg
  have H0 : Hp n h (n + 1) ((n,.row 6 [.agg [.int .i64 1,.int .i64 (k : Nat),.bool false,.str [],.nils,.nils]]) :: h) := (Hp.start hg).box (r := n) (m := n + 1) (Nat.le_refl _) (by omega) (flatTA (varT k))
  have P0 : Pst r S q ((n,.row 6 [.agg [.int .i64 1,.int .i64 (k : Nat),.bool false,.str [],.nils,.nils]]) :: h) := P.cons hg (Nat.le_refl n)
  have G1 : ∀ m,n + 9 ≤ m → Gd m ((n + 8,.row 12 [.agg ruleL]) :: (n,.row 6 [.agg [.int .i64 1,.int .i64 (k : Nat),.bool false,.str [],.nils,.nils]]) :: h) := fun m hm k hk => good_cons.2 ⟨by omega,rfl,H0.good k (by omega)⟩
  have P1 : Pst r S q ((n + 8,.row 12 [.agg ruleL]) :: (n,.row 6 [.agg [.int .i64 1,.int .i64 (k : Nat),.bool false,.str [],.nils,.nils]]) :: h) := P0.cons (n := n + 1) H0.good (by omega)
  have c1 := fun m (hm : n + 1 ≤ m) => pLen (n := m) (fun k hk => H0.good k (by omega)) P0
  have q1 : ¬ ((S.length : Nat) : Int) > 8000000 := by omega
  rw [f12_eq]; unfold c12; rw [callFn_eq (by rfl)]
  simp (disch:=first|assumption|omega|(simp (disch:=first|assumption|omega) only [sB,Nat.reduceAdd,Nat.reduceLT,Nat.reduceLeDiff,Nat.reduceEqDiff,Nat.reduceMul,↓reduceIte,getO_tl];done)|fail) only [sA,↓reduceIte,Nat.reduceLT,Nat.reduceEqDiff,Nat.reduceAdd,Nat.reduceLeDiff,c1,q1,rules_ok,rules_st,getO_tl]
  rw [LX_drawT]
  change POk _ _ _ _ _ _ _ (finish n [] (runDraw (strN 1 d) _ _ _ _ _ _ _ _))
  have hs := strN_big 1 d
  have hs2 := True.intro
  generalize strN 1 d = sd at hs hs2 ⊢
  obtain ⟨n1,h1',q1',e1,s1,P1,i1,j1,b1⟩ := pVar (n := n + (10 + (sd + (sd + (sd + (sd + (sd + (sd + (sd + 1)))))))))  (G1 _ (by omega)) P1 hk hd (by omega)
  have := s1.le
  have bb : n1 < n + (10 + (sd + (sd + (sd + (sd + (sd + (sd + sd))))))) + sd := by omega
  simp (disch:=first|assumption|omega|(simp (disch:=first|assumption|omega) only [sB,Nat.reduceAdd,Nat.reduceLT,Nat.reduceLeDiff,Nat.reduceEqDiff,Nat.reduceMul,↓reduceIte,getO_tl];done)|fail) only [sA,↓reduceIte,Nat.reduceLT,Nat.reduceEqDiff,Nat.reduceAdd,Nat.reduceLeDiff,pa1,tch_pa,okF1,e1,bb,getO_tl]
  exact pok_end hr P1 rfl (by omega) (by omega) (fun k hk => s1.good k (by omega)) (fun x a b c => by rw [s1.keep x (by omega) b c,getO_tl (by omega),getO_tl (by omega)]) (by omega)
set_option maxHeartbeats 4000000 in
theorem tSet {n : Nat} {h : Hps} (hg : Gd n h) {r q : Nat} {S : List Nat} (P : Pst r S q h) {d : Nat} (hl : S.length < 1000000) :
    POk (9 * strN 2 d) n h r q S [83,101,116,32,48] (callFn (LX (cF Tryd.prog)) n h [.ptr r 0 0,.agg [.int .i64 2,.int .i64 0,.bool false,.str [],.sl 2 [.agg [.int .i64 0,.nils]] [] true,.nils],.int .i64 (d : Nat)] (cF Tryd.prog 12)) := by
  have hgn := hg n (Nat.le_refl _)
  obtain ⟨hr,hq⟩ := P.lt hg
  have H0 : Hp n h (n + 1) ((n,.row 6 [.agg [.int .i64 2,.int .i64 0,.bool false,.str [],.sl 2 [.agg [.int .i64 0,.nils]] [] true,.nils]]) :: h) := (Hp.start hg).box (r := n) (m := n + 1) (Nat.le_refl _) (by omega) (flatTA set0)
  have P0 : Pst r S q ((n,.row 6 [.agg [.int .i64 2,.int .i64 0,.bool false,.str [],.sl 2 [.agg [.int .i64 0,.nils]] [] true,.nils]]) :: h) := P.cons hg (Nat.le_refl n)
  have G1 : ∀ m,n + 9 ≤ m → Gd m ((n + 8,.row 12 [.agg ruleL]) :: (n,.row 6 [.agg [.int .i64 2,.int .i64 0,.bool false,.str [],.sl 2 [.agg [.int .i64 0,.nils]] [] true,.nils]]) :: h) := fun m hm k hk => good_cons.2 ⟨by omega,rfl,H0.good k (by omega)⟩
  have P1 : Pst r S q ((n + 8,.row 12 [.agg ruleL]) :: (n,.row 6 [.agg [.int .i64 2,.int .i64 0,.bool false,.str [],.sl 2 [.agg [.int .i64 0,.nils]] [] true,.nils]]) :: h) := P0.cons (n := n + 1) H0.good (by omega)
  have c1 := fun m (hm : n + 1 ≤ m) => pLen (n := m) (fun k hk => H0.good k (by omega)) P0
  have q1 : ¬ ((S.length : Nat) : Int) > 8000000 := by omega
  rw [f12_eq]; unfold c12; rw [callFn_eq (by rfl)]
  simp (disch:=first|assumption|omega|(simp (disch:=first|assumption|omega) only [sB,Nat.reduceAdd,Nat.reduceLT,Nat.reduceLeDiff,Nat.reduceEqDiff,Nat.reduceMul,↓reduceIte,getO_tl];done)|fail) only [sA,↓reduceIte,Nat.reduceLT,Nat.reduceEqDiff,Nat.reduceAdd,Nat.reduceLeDiff,c1,q1,rules_ok,rules_st,getO_tl]
  rw [LX_drawT]
  change POk _ _ _ _ _ _ _ (finish n [] (runDraw (strN 2 d) _ _ _ _ _ _ _ _))
  have hs := strN_big 2 d
  have hs2 := True.intro
  generalize strN 2 d = sd at hs hs2 ⊢
  obtain ⟨n1,h1',q1',e1,s1,P1,i1,j1,b1⟩ := pSort (n := n + (10 + (sd + (sd + (sd + (sd + (sd + (sd + (sd + 1)))))))))  (G1 _ (by omega)) P1 (d := d) (by omega)
  have := s1.le
  have bb : n1 < n + (10 + (sd + (sd + (sd + (sd + (sd + (sd + sd))))))) + sd := by omega
  simp (disch:=first|assumption|omega|(simp (disch:=first|assumption|omega) only [sB,Nat.reduceAdd,Nat.reduceLT,Nat.reduceLeDiff,Nat.reduceEqDiff,Nat.reduceMul,↓reduceIte,getO_tl];done)|fail) only [sA,↓reduceIte,Nat.reduceLT,Nat.reduceEqDiff,Nat.reduceAdd,Nat.reduceLeDiff,pa2,tch_pa,okF2,e1,bb,getO_tl]
  exact pok_end hr P1 rfl (by omega) (by omega) (fun k hk => s1.good k (by omega)) (fun x a b c => by rw [s1.keep x (by omega) b c,getO_tl (by omega),getO_tl (by omega)]) (by omega)
def lamA (hid : Bool) (A B : Tm) : Tm := .mk 4 0 hid [] (Sl.app []) false true [A,B] []
def opn (hid : Bool) : List Nat := if hid then [123] else [40]
def cls (hid : Bool) : List Nat := if hid then [125] else [41]
def ltxt (hid : Bool) (d : Nat) (TA TB : List Nat) : List Nat := [92] ++ opn hid ++ [120] ++ (dig d ++ ([32,58,32] ++ (TA ++ (cls hid ++ [32,45,62,32] ++ TB))))
def TOk (A : Tm) (d : Nat) (T : List Nat) (C : Nat) : Prop := ∀ {n : Nat} {h : Hps},Gd n h → ∀ {r q : Nat} {S : List Nat},Pst r S q h → S.length + T.length < 1000000 →
  POk C n h r q S T (callFn (LX (cF Tryd.prog)) n h [.ptr r 0 0,(D.agg [.int .i64 (A).form,.int .i64 (A).n,.bool (A).hid,.str (A).name,slD 2 encL (A).levels,slD 6 encT (A).kids]),.int .i64 (d : Nat)] (cF Tryd.prog 12))
set_option maxHeartbeats 4000000 in
theorem pBind {hid : Bool} {A B : Tm} {d CA CB : Nat} {TA TB : List Nat} (hA : TOk A d TA CA) (hB : TOk B (d + 1) TB CB) (hd : d < 100)
    {n : Nat} {h : Hps} (hg : Gd n h) {r q : Nat} {S : List Nat} (P : Pst r S q h) (hl : S.length + (ltxt hid d TA TB).length < 1000000) :
    POk (2000 + CA + CB) n h r q S (ltxt hid d TA TB) (callFn (LX (cF Tryd.prog)) n h [.ptr r 0 0,(D.agg [.int .i64 (lamA hid A B).form,.int .i64 (lamA hid A B).n,.bool (lamA hid A B).hid,.str (lamA hid A B).name,slD 2 encL (lamA hid A B).levels,slD 6 encT (lamA hid A B).kids]),.int .i64 (d : Nat),.str [92],.str [32,45,62,32]] (cF Tryd.prog 39)) := by
  have hgn := hg n (Nat.le_refl _)
  obtain ⟨hr,hq⟩ := P.lt hg
  obtain ⟨K,hK⟩ : ∃ K : List D,K = [encT A,encT B] := ⟨_,rfl⟩
  have hT : (D.agg [.int .i64 (lamA hid A B).form,.int .i64 (lamA hid A B).n,.bool (lamA hid A B).hid,.str (lamA hid A B).name,slD 2 encL (lamA hid A B).levels,slD 6 encT (lamA hid A B).kids]) = .agg [.int .i64 4,.int .i64 0,.bool hid,.str [],.nils,.sl 6 K [] true] := by rw [hK]; rfl
  have H0 : Hp n h (n + 1) ((n,(Ob.row 6 [.agg [.int .i64 (lamA hid A B).form,.int .i64 (lamA hid A B).n,.bool (lamA hid A B).hid,.str (lamA hid A B).name,slD 2 encL (lamA hid A B).levels,slD 6 encT (lamA hid A B).kids]])) :: h) := (Hp.start hg).box (r := n) (m := n + 1) (Nat.le_refl _) (by omega) (flatTA _)
  have hTB : (Ob.row 6 [.agg [.int .i64 (lamA hid A B).form,.int .i64 (lamA hid A B).n,.bool (lamA hid A B).hid,.str (lamA hid A B).name,slD 2 encL (lamA hid A B).levels,slD 6 encT (lamA hid A B).kids]]) = .row 6 [.agg [.int .i64 4,.int .i64 0,.bool hid,.str [],.nils,.sl 6 K [] true]] := by rw [hK]; rfl
  rw [hTB] at H0
  rw [hT]
  have c2 : ∀ m g,iaddrD m g 6 (.sl 6 K [] true) 0 = .ok (.ip (encT A) 0) m g := fun _ _ => by rw [hK]; rfl
  have c3 : ∀ m g,iaddrD m g 6 (.sl 6 K [] true) 1 = .ok (.ip (encT B) 0) m g := fun _ _ => by rw [hK]; rfl
  unfold ltxt at hl
  simp only [List.length_append,List.length_cons,List.length_nil] at hl
  have hol : (opn hid).length = 1 := by cases hid <;> rfl
  have hcl : (cls hid).length = 1 := by cases hid <;> rfl
  have ho : opn hid ≠ [] := by unfold opn; cases hid <;> simp
  have hc : cls hid ≠ [] := by unfold cls; cases hid <;> simp
  have hdl := dig_len d
  have P0 : Pst r S q ((n,.row 6 [.agg [.int .i64 4,.int .i64 0,.bool hid,.str [],.nils,.sl 6 K [] true]]) :: h) := P.cons hg (Nat.le_refl n)
  rw [f39_eq]; unfold c39; rw [callFn_eq (by rfl)]
  cases hid with
  | true =>
    obtain ⟨n1,h1',q1',e1,s1,P1,i1,j1,b1⟩ := put3 (n := n + 17) (fun k hk => H0.good k (by omega)) P0 (s := [92]) (t := [123]) (u := [120]) (by simp) (by simp) (by simp) (by simp; omega)
    have := s1.le
    have k1 : getO h1' n = .row 6 [.agg [.int .i64 4,.int .i64 0,.bool true,.str [],.nils,.sl 6 K [] true]] := by rw [s1.keep n (by omega) (by omega) (by omega),getO_hd]
    obtain ⟨n2,h2',q2',e2,s2,P2,i2,j2,b2⟩ := pNum (n := n1 + 4) (fun k hk => s1.good k (by omega)) P1 hd (by simp; omega)
    have := s2.le
    have k2 : getO h2' n = .row 6 [.agg [.int .i64 4,.int .i64 0,.bool true,.str [],.nils,.sl 6 K [] true]] := by rw [s2.keep n (by omega) (by omega) (by omega),k1]
    obtain ⟨n3,h3',q3',e3,s3,P3,i3,j3,b3⟩ := put1 (n := n2 + 4) (fun k hk => s2.good k (by omega)) P2 (s := [32,58,32]) (by simp) (by simp; omega)
    have := s3.le
    have k3 : getO h3' n = .row 6 [.agg [.int .i64 4,.int .i64 0,.bool true,.str [],.nils,.sl 6 K [] true]] := by rw [s3.keep n (by omega) (by omega) (by omega),k2]
    obtain ⟨n4,h4',q4',e4,s4,P4,i4,j4,b4⟩ := hA (n := n3 + 8) (fun k hk => s3.good k (by omega)) P3 (by simp; omega)
    have := s4.le
    have k4 : getO h4' n = .row 6 [.agg [.int .i64 4,.int .i64 0,.bool true,.str [],.nils,.sl 6 K [] true]] := by rw [s4.keep n (by omega) (by omega) (by omega),k3]
    obtain ⟨n5,h5',q5',e5,s5,P5,i5,j5,b5⟩ := put2 (n := n4 + 6) (fun k hk => s4.good k (by omega)) P4 (s := [125]) (t := [32,45,62,32]) (by simp) (by simp) (by simp; omega)
    have := s5.le
    have k5 : getO h5' n = .row 6 [.agg [.int .i64 4,.int .i64 0,.bool true,.str [],.nils,.sl 6 K [] true]] := by rw [s5.keep n (by omega) (by omega) (by omega),k4]
    obtain ⟨n6,h6',q6',e6,s6,P6,i6,j6,b6⟩ := hB (n := n5 + 9) (fun k hk => s5.good k (by omega)) P5 (by simp; omega)
    have := s6.le
    simp (disch:=first|assumption|omega|(simp (disch:=first|assumption|omega) only [sB,Nat.reduceAdd,Nat.reduceLT,Nat.reduceLeDiff,Nat.reduceEqDiff,Nat.reduceMul,↓reduceIte,getO_tl];done)|fail) only [sA,↓reduceIte,Nat.reduceLT,Nat.reduceEqDiff,Nat.reduceAdd,Nat.reduceLeDiff,e1,k1,e2,k2,e3,k3,c2,encT_eq,e4,k4,e5,k5,c3,e6,getO_tl]
    exact pok_end hr P6 (by simp [ltxt,opn,cls]) (by omega) (by omega) (fun k hk => s6.good k (by omega)) (fun x a b c => by rw [s6.keep x (by omega) b (by omega),s5.keep x (by omega) b (by omega),s4.keep x (by omega) b (by omega),s3.keep x (by omega) b (by omega),s2.keep x (by omega) b (by omega),s1.keep x (by omega) b c,getO_tl (by omega)]) (by omega)
  | false =>
    obtain ⟨n1,h1',q1',e1,s1,P1,i1,j1,b1⟩ := put3 (n := n + 15) (fun k hk => H0.good k (by omega)) P0 (s := [92]) (t := [40]) (u := [120]) (by simp) (by simp) (by simp) (by simp; omega)
    have := s1.le
    have k1 : getO h1' n = .row 6 [.agg [.int .i64 4,.int .i64 0,.bool false,.str [],.nils,.sl 6 K [] true]] := by rw [s1.keep n (by omega) (by omega) (by omega),getO_hd]
    obtain ⟨n2,h2',q2',e2,s2,P2,i2,j2,b2⟩ := pNum (n := n1 + 4) (fun k hk => s1.good k (by omega)) P1 hd (by simp; omega)
    have := s2.le
    have k2 : getO h2' n = .row 6 [.agg [.int .i64 4,.int .i64 0,.bool false,.str [],.nils,.sl 6 K [] true]] := by rw [s2.keep n (by omega) (by omega) (by omega),k1]
    obtain ⟨n3,h3',q3',e3,s3,P3,i3,j3,b3⟩ := put1 (n := n2 + 4) (fun k hk => s2.good k (by omega)) P2 (s := [32,58,32]) (by simp) (by simp; omega)
    have := s3.le
    have k3 : getO h3' n = .row 6 [.agg [.int .i64 4,.int .i64 0,.bool false,.str [],.nils,.sl 6 K [] true]] := by rw [s3.keep n (by omega) (by omega) (by omega),k2]
    obtain ⟨n4,h4',q4',e4,s4,P4,i4,j4,b4⟩ := hA (n := n3 + 8) (fun k hk => s3.good k (by omega)) P3 (by simp; omega)
    have := s4.le
    have k4 : getO h4' n = .row 6 [.agg [.int .i64 4,.int .i64 0,.bool false,.str [],.nils,.sl 6 K [] true]] := by rw [s4.keep n (by omega) (by omega) (by omega),k3]
    obtain ⟨n5,h5',q5',e5,s5,P5,i5,j5,b5⟩ := put2 (n := n4 + 6) (fun k hk => s4.good k (by omega)) P4 (s := [41]) (t := [32,45,62,32]) (by simp) (by simp) (by simp; omega)
    have := s5.le
    have k5 : getO h5' n = .row 6 [.agg [.int .i64 4,.int .i64 0,.bool false,.str [],.nils,.sl 6 K [] true]] := by rw [s5.keep n (by omega) (by omega) (by omega),k4]
    obtain ⟨n6,h6',q6',e6,s6,P6,i6,j6,b6⟩ := hB (n := n5 + 9) (fun k hk => s5.good k (by omega)) P5 (by simp; omega)
    have := s6.le
    simp (disch:=first|assumption|omega|(simp (disch:=first|assumption|omega) only [sB,Nat.reduceAdd,Nat.reduceLT,Nat.reduceLeDiff,Nat.reduceEqDiff,Nat.reduceMul,↓reduceIte,getO_tl];done)|fail) only [sA,↓reduceIte,Nat.reduceLT,Nat.reduceEqDiff,Nat.reduceAdd,Nat.reduceLeDiff,e1,k1,e2,k2,e3,k3,c2,encT_eq,e4,k4,e5,k5,c3,e6,getO_tl]
    exact pok_end hr P6 (by simp [ltxt,opn,cls]) (by omega) (by omega) (fun k hk => s6.good k (by omega)) (fun x a b c => by rw [s6.keep x (by omega) b (by omega),s5.keep x (by omega) b (by omega),s4.keep x (by omega) b (by omega),s3.keep x (by omega) b (by omega),s2.keep x (by omega) b (by omega),s1.keep x (by omega) b c,getO_tl (by omega)]) (by omega)
end Go.Proofs.YtpbpmpabndgeeaaDoor
