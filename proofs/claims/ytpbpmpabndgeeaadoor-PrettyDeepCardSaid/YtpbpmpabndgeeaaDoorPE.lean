/- The law's walk. -/
import Derived.Test.YtpbpmpabndgeeaaDoorPD
set_option linter.unusedSimpArgs false
set_option linter.unusedVariables false
namespace Go.Proofs.YtpbpmpabndgeeaaDoor
open Go

def wnt (hid : Bool) : Nat → List Nat
  | 0 => []
  | i + 1 => wnt hid i ++ ([92] ++ opn hid ++ [120]) ++ dig i ++ ([32,58,32,83,101,116,32,48] ++ cls hid ++ [32,45,62,32])
theorem wnt_len (hid : Bool) : ∀ i,(wnt hid i).length ≤ 30 * i
  | 0 => Nat.le_refl _
  | i + 1 => by
    have := wnt_len hid i
    have h1 := dig_len i
    have h2 : (opn hid).length = 1 := by cases hid <;> rfl
    have h3 : (cls hid).length = 1 := by cases hid <;> rfl
    show (wnt hid i ++ ([92] ++ opn hid ++ [120]) ++ dig i ++ ([32,58,32,83,101,116,32,48] ++ cls hid ++ [32,45,62,32])).length ≤ _
    simp only [List.length_append,List.length_cons,List.length_nil]
    omega
theorem keys_nil {m : Nat} : ∀ {g : Hps},(∀ p,p ∈ g → p.1 < m) → keysFrom m g = []
  | [],_ => rfl
  | (q,o) :: t,H => by
    show Bool.rec (motive := fun _ => List Nat) (keysFrom m t) (q :: keysFrom m t) (Nat.ble m q) = _
    have hq : q < m := H (q,o) (by simp)
    rw [ble_iff,decide_eq_false (by omega)]
    exact keys_nil (fun p hp => H p (by simp [hp]))
set_option maxHeartbeats 4000000 in
theorem dBody {c : Nat} {h : Hps} (hg : Gd c h) {N k i : Nat} {hid : Bool} {e : Tr} {n' : Nat} (hi : i < N) (hN : N ≤ 30) (hn : c + 1 ≤ n')
    (g0 : get (po 0) e = .int .i64 (N : Nat)) (g1 : get (po 1) e = .int .i64 (k : Nat)) (g2 : get (po 2) e = .bool hid) (g8 : get (po 8) e = .ptr c 0 0) (g9 : get (po 9) e = .str (wnt hid i)) (g10 : get (po 10) e = .int .i64 (i : Nat)) :
    ∃ e2 n2,LX (cF Tryd.prog) l3_0 e n' ((c,(Ob.row 6 [.agg [.int .i64 (lamN hid (k : Nat) i).form,.int .i64 (lamN hid (k : Nat) i).n,.bool (lamN hid (k : Nat) i).hid,.str (lamN hid (k : Nat) i).name,slD 2 encL (lamN hid (k : Nat) i).levels,slD 6 encT (lamN hid (k : Nat) i).kids]])) :: h) = .ok .normal e2 n2 ((c,(Ob.row 6 [.agg [.int .i64 (lamN hid (k : Nat) (i + 1)).form,.int .i64 (lamN hid (k : Nat) (i + 1)).n,.bool (lamN hid (k : Nat) (i + 1)).hid,.str (lamN hid (k : Nat) (i + 1)).name,slD 2 encL (lamN hid (k : Nat) (i + 1)).levels,slD 6 encT (lamN hid (k : Nat) (i + 1)).kids]])) :: h) ∧ c + 1 ≤ n2 ∧ get (po 0) e2 = .int .i64 (N : Nat) ∧ get (po 1) e2 = .int .i64 (k : Nat) ∧ get (po 2) e2 = .bool hid ∧ get (po 8) e2 = .ptr c 0 0 ∧ get (po 9) e2 = .str (wnt hid (i + 1)) ∧ get (po 10) e2 = .int .i64 ((i + 1 : Nat) : Int) := by
  have q1 : ((i : Nat) : Int) < (N : Nat) := by omega
  have s1 := fun m => qSet (n := m) (h := []) (fun k hk => good_nil)
  have eE : ((D.agg [.int .i64 (lamN hid (k : Nat) (i + 1)).form,.int .i64 (lamN hid (k : Nat) (i + 1)).n,.bool (lamN hid (k : Nat) (i + 1)).hid,.str (lamN hid (k : Nat) (i + 1)).name,slD 2 encL (lamN hid (k : Nat) (i + 1)).levels,slD 6 encT (lamN hid (k : Nat) (i + 1)).kids]) : D) = .agg [.int .i64 4,.int .i64 0,.bool hid,.str [],.nils,.sl 6 [.agg [.int .i64 2,.int .i64 0,.bool false,.str [],.sl 2 [.agg [.int .i64 0,.nils]] [] true,.nils],(D.agg [.int .i64 (lamN hid (k : Nat) i).form,.int .i64 (lamN hid (k : Nat) i).n,.bool (lamN hid (k : Nat) i).hid,.str (lamN hid (k : Nat) i).name,slD 2 encL (lamN hid (k : Nat) i).levels,slD 6 encT (lamN hid (k : Nat) i).kids])] [] true] := by
    show D.agg [.int .i64 4,.int .i64 0,.bool hid,.str [],.nils,.sl 6 [encT set0,encT (lamN hid (k : Nat) i)] [] true] = _
    rw [encT_eq set0,encT_eq (lamN hid (k : Nat) i)]; rfl
  have G2 : ∀ m,c + 1 ≤ m → Gd m ((c,.row 6 [.agg [.int .i64 4,.int .i64 0,.bool hid,.str [],.nils,.sl 6 [.agg [.int .i64 2,.int .i64 0,.bool false,.str [],.sl 2 [.agg [.int .i64 0,.nils]] [] true,.nils],(D.agg [.int .i64 (lamN hid (k : Nat) i).form,.int .i64 (lamN hid (k : Nat) i).n,.bool (lamN hid (k : Nat) i).hid,.str (lamN hid (k : Nat) i).name,slD 2 encL (lamN hid (k : Nat) i).levels,slD 6 encT (lamN hid (k : Nat) i).kids])] [] true]]) :: h) := by
    rw [← eE]
    exact fun m hm k2 hk2 => ((Hp.start hg).box (r := c) (m := c + 1) (Nat.le_refl _) (by omega) (flatTA (lamN hid (k : Nat) (i + 1)))).good k2 (by omega)
  rw [eE]
  have d1 := fun m (hm : c + 1 ≤ m) => qDig (n := m) (G2 m hm) (v := i) (by omega)
  have kk : ∀ m,c + 1 ≤ m → ∀ o,keysFrom m ((c,o) :: h) = [] := fun m hm o => keys_nil (fun p hp => by
    rcases List.mem_cons.1 hp with rfl | hp
    · show c < m; omega
    · have := (hg c (Nat.le_refl _) p hp).1; omega)
  have wl := wnt_len hid i
  have dl := dig_len i
  unfold l3_0
  cases hid with
  | true =>
    have a1 : binD .add (.str (wnt true i)) (.str [92,123,120]) = .str (wnt true i ++ [92,123,120]) := str_add (by simp; omega)
    have a2 : binD .add (.str (wnt true i ++ [92,123,120])) (.str (dig i)) = .str (wnt true i ++ [92,123,120] ++ dig i) := str_add (by simp; omega)
    have a3 : binD .add (.str (wnt true i ++ [92,123,120] ++ dig i)) (.str [32,58,32,83,101,116,32,48,125,32,45,62,32]) = .str (wnt true i ++ [92,123,120] ++ dig i ++ [32,58,32,83,101,116,32,48,125,32,45,62,32]) := str_add (by simp; omega)
    simp (disch:=first|assumption|omega|(simp (disch:=first|assumption|omega) only [sB,Nat.reduceAdd,Nat.reduceLT,Nat.reduceLeDiff,Nat.reduceEqDiff,Nat.reduceMul,↓reduceIte,getO_tl];done)|fail) only [sA,↓reduceIte,Nat.reduceLT,Nat.reduceEqDiff,Nat.reduceAdd,Nat.reduceLeDiff,g0,g1,g2,g8,g9,g10,q1,s1,kk,d1,a1,a2,a3,getO_tl]
    exact ⟨_,_,rfl,by omega,by simp (disch:=first|assumption|omega|(simp (disch:=first|assumption|omega) only [sB,Nat.reduceAdd,Nat.reduceLT,Nat.reduceLeDiff,Nat.reduceEqDiff,Nat.reduceMul,↓reduceIte];done)|fail) only [sA,↓reduceIte,Nat.reduceLT,Nat.reduceEqDiff,Nat.reduceAdd,Nat.reduceLeDiff,g0],by simp (disch:=first|assumption|omega|(simp (disch:=first|assumption|omega) only [sB,Nat.reduceAdd,Nat.reduceLT,Nat.reduceLeDiff,Nat.reduceEqDiff,Nat.reduceMul,↓reduceIte];done)|fail) only [sA,↓reduceIte,Nat.reduceLT,Nat.reduceEqDiff,Nat.reduceAdd,Nat.reduceLeDiff,g1],by simp (disch:=first|assumption|omega|(simp (disch:=first|assumption|omega) only [sB,Nat.reduceAdd,Nat.reduceLT,Nat.reduceLeDiff,Nat.reduceEqDiff,Nat.reduceMul,↓reduceIte];done)|fail) only [sA,↓reduceIte,Nat.reduceLT,Nat.reduceEqDiff,Nat.reduceAdd,Nat.reduceLeDiff,g2],by simp (disch:=first|assumption|omega|(simp (disch:=first|assumption|omega) only [sB,Nat.reduceAdd,Nat.reduceLT,Nat.reduceLeDiff,Nat.reduceEqDiff,Nat.reduceMul,↓reduceIte];done)|fail) only [sA,↓reduceIte,Nat.reduceLT,Nat.reduceEqDiff,Nat.reduceAdd,Nat.reduceLeDiff,g8],(by first | (simp (disch:=first|assumption|omega|(simp (disch:=first|assumption|omega) only [sB,Nat.reduceAdd,Nat.reduceLT,Nat.reduceLeDiff,Nat.reduceEqDiff,Nat.reduceMul,↓reduceIte];done)|fail) only [sA,↓reduceIte,Nat.reduceLT,Nat.reduceEqDiff,Nat.reduceAdd,Nat.reduceLeDiff]; done) | (simp (disch:=first|assumption|omega|(simp (disch:=first|assumption|omega) only [sB,Nat.reduceAdd,Nat.reduceLT,Nat.reduceLeDiff,Nat.reduceEqDiff,Nat.reduceMul,↓reduceIte];done)|fail) only [sA,↓reduceIte,Nat.reduceLT,Nat.reduceEqDiff,Nat.reduceAdd,Nat.reduceLeDiff]; rfl)),by simp (disch:=first|assumption|omega|(simp (disch:=first|assumption|omega) only [sB,Nat.reduceAdd,Nat.reduceLT,Nat.reduceLeDiff,Nat.reduceEqDiff,Nat.reduceMul,↓reduceIte];done)|fail) only [sA,↓reduceIte,Nat.reduceLT,Nat.reduceEqDiff,Nat.reduceAdd,Nat.reduceLeDiff]⟩
  | false =>
    have a1 : binD .add (.str (wnt false i)) (.str [92,40,120]) = .str (wnt false i ++ [92,40,120]) := str_add (by simp; omega)
    have a2 : binD .add (.str (wnt false i ++ [92,40,120])) (.str (dig i)) = .str (wnt false i ++ [92,40,120] ++ dig i) := str_add (by simp; omega)
    have a3 : binD .add (.str (wnt false i ++ [92,40,120] ++ dig i)) (.str [32,58,32,83,101,116,32,48,41,32,45,62,32]) = .str (wnt false i ++ [92,40,120] ++ dig i ++ [32,58,32,83,101,116,32,48,41,32,45,62,32]) := str_add (by simp; omega)
    simp (disch:=first|assumption|omega|(simp (disch:=first|assumption|omega) only [sB,Nat.reduceAdd,Nat.reduceLT,Nat.reduceLeDiff,Nat.reduceEqDiff,Nat.reduceMul,↓reduceIte,getO_tl];done)|fail) only [sA,↓reduceIte,Nat.reduceLT,Nat.reduceEqDiff,Nat.reduceAdd,Nat.reduceLeDiff,g0,g1,g2,g8,g9,g10,q1,s1,kk,d1,a1,a2,a3,getO_tl]
    exact ⟨_,_,rfl,by omega,by simp (disch:=first|assumption|omega|(simp (disch:=first|assumption|omega) only [sB,Nat.reduceAdd,Nat.reduceLT,Nat.reduceLeDiff,Nat.reduceEqDiff,Nat.reduceMul,↓reduceIte];done)|fail) only [sA,↓reduceIte,Nat.reduceLT,Nat.reduceEqDiff,Nat.reduceAdd,Nat.reduceLeDiff,g0],by simp (disch:=first|assumption|omega|(simp (disch:=first|assumption|omega) only [sB,Nat.reduceAdd,Nat.reduceLT,Nat.reduceLeDiff,Nat.reduceEqDiff,Nat.reduceMul,↓reduceIte];done)|fail) only [sA,↓reduceIte,Nat.reduceLT,Nat.reduceEqDiff,Nat.reduceAdd,Nat.reduceLeDiff,g1],by simp (disch:=first|assumption|omega|(simp (disch:=first|assumption|omega) only [sB,Nat.reduceAdd,Nat.reduceLT,Nat.reduceLeDiff,Nat.reduceEqDiff,Nat.reduceMul,↓reduceIte];done)|fail) only [sA,↓reduceIte,Nat.reduceLT,Nat.reduceEqDiff,Nat.reduceAdd,Nat.reduceLeDiff,g2],by simp (disch:=first|assumption|omega|(simp (disch:=first|assumption|omega) only [sB,Nat.reduceAdd,Nat.reduceLT,Nat.reduceLeDiff,Nat.reduceEqDiff,Nat.reduceMul,↓reduceIte];done)|fail) only [sA,↓reduceIte,Nat.reduceLT,Nat.reduceEqDiff,Nat.reduceAdd,Nat.reduceLeDiff,g8],(by first | (simp (disch:=first|assumption|omega|(simp (disch:=first|assumption|omega) only [sB,Nat.reduceAdd,Nat.reduceLT,Nat.reduceLeDiff,Nat.reduceEqDiff,Nat.reduceMul,↓reduceIte];done)|fail) only [sA,↓reduceIte,Nat.reduceLT,Nat.reduceEqDiff,Nat.reduceAdd,Nat.reduceLeDiff]; done) | (simp (disch:=first|assumption|omega|(simp (disch:=first|assumption|omega) only [sB,Nat.reduceAdd,Nat.reduceLT,Nat.reduceLeDiff,Nat.reduceEqDiff,Nat.reduceMul,↓reduceIte];done)|fail) only [sA,↓reduceIte,Nat.reduceLT,Nat.reduceEqDiff,Nat.reduceAdd,Nat.reduceLeDiff]; rfl)),by simp (disch:=first|assumption|omega|(simp (disch:=first|assumption|omega) only [sB,Nat.reduceAdd,Nat.reduceLT,Nat.reduceLeDiff,Nat.reduceEqDiff,Nat.reduceMul,↓reduceIte];done)|fail) only [sA,↓reduceIte,Nat.reduceLT,Nat.reduceEqDiff,Nat.reduceAdd,Nat.reduceLeDiff]⟩
theorem mtxt_wnt (hid : Bool) (k : Nat) : ∀ m d,wnt hid d ++ mtxt hid k m d = wnt hid (m + d) ++ vtxt k (m + d)
  | 0,d => by rw [Nat.zero_add]; rfl
  | m + 1,d => by
    rw [show m + 1 + d = m + (d + 1) by omega,← mtxt_wnt hid k m (d + 1)]
    show wnt hid d ++ ltxt hid d setT (mtxt hid k m (d + 1)) = wnt hid d ++ ([92] ++ opn hid ++ [120]) ++ dig d ++ ([32,58,32,83,101,116,32,48] ++ cls hid ++ [32,45,62,32]) ++ mtxt hid k m (d + 1)
    unfold ltxt setT
    simp only [List.append_assoc,List.cons_append,List.nil_append]
theorem dig_lt {v : Nat} (h : v < 100) : ∀ c,c ∈ dig v → c < 256 := by
  intro c hc
  unfold dig at hc
  split at hc <;> simp at hc <;> omega
theorem mtxt_ne (hid : Bool) (k : Nat) : ∀ m d,mtxt hid k m d ≠ []
  | 0,d => by show vtxt k d ≠ []; unfold vtxt; split <;> simp
  | m + 1,d => by show ltxt hid d setT (mtxt hid k m (d + 1)) ≠ []; unfold ltxt; simp
theorem mtxt_lt (hid : Bool) {k : Nat} (hk : k < 100) : ∀ m d,m + d < 90 → ∀ c,c ∈ mtxt hid k m d → c < 256
  | 0,d,hd => by
    show ∀ c,c ∈ vtxt k d → c < 256
    intro c hc
    unfold vtxt at hc
    have h1 := dig_lt (v := d - 1 - k) (by omega)
    have h2 := dig_lt (v := k - d) (by omega)
    split at hc <;> rcases List.mem_cons.1 hc with rfl | hc <;> first | omega | exact h1 c hc | exact h2 c hc
  | m + 1,d,hd => by
    have ih := mtxt_lt hid hk m (d + 1) (by omega)
    show ∀ c,c ∈ ltxt hid d setT (mtxt hid k m (d + 1)) → c < 256
    intro c hc
    unfold ltxt setT at hc
    have h1 := dig_lt (v := d) (by omega)
    have h2 : ∀ c,c ∈ opn hid → c < 256 := by cases hid <;> decide
    have h3 : ∀ c,c ∈ cls hid → c < 256 := by cases hid <;> decide
    simp only [List.mem_append] at hc
    rcases hc with ((hc | hc) | hc) | hc | hc | hc | ((hc | hc) | hc)
    · simp at hc; omega
    · exact h2 c hc
    · simp at hc; omega
    · exact h1 c hc
    · simp at hc; omega
    · simp at hc; omega
    · exact h3 c hc
    · simp at hc; omega
    · exact ih c hc
theorem eqN_refl : ∀ a : List Nat,eqN a a = true
  | [] => rfl
  | x :: t => by
    show Bool.rec (motive := fun _ => Bool) false (eqN t t) (Nat.beq x x) = true
    rw [Nat.beq_refl]; exact eqN_refl t
theorem eqS {a : List Nat} : binD .eql (.str a) (.str a) = .bool true := by
  show D.bool (eqN a a) = _
  rw [eqN_refl]
theorem fin_bool {n m : Nat} {h : Hps} {b : Bool} : ∃ n' h',finishD n m h (.bool b) = .ok (.bool b) n' h' := by
  unfold finishD
  cases Bool.or (hasP n 20 (.bool b)) (leak n h) with
  | true => exact ⟨_,_,rfl⟩
  | false => exact ⟨_,_,rfl⟩
set_option maxHeartbeats 4000000 in
theorem qDeep {n : Nat} {h : Hps} (hg : Gd n h) (hal : callFn (LX (cF Tryd.prog)) (n + 2) [] [] (cF Tryd.prog 4) = .ok (.bool true) (n + 2) []) {N k : Nat} {hid : Bool} (hN : 1 ≤ N) (hN2 : N ≤ 30) (hk : k ≤ 40) :
    ∃ n' h',callFn (LX (cF Tryd.prog)) n h [.int .i64 (N : Nat),.int .i64 (k : Nat),.bool hid] (cF Tryd.prog 3) = .ok (.bool true) n' h' := by
  have hgn := hg n (Nat.le_refl _)
  have q1 : ¬ ((N : Nat) : Int) < 1 := by omega
  have q2 : ¬ ((N : Nat) : Int) > 30 := by omega
  have q3 : ¬ ((k : Nat) : Int) < 0 := by omega
  have q4 : ¬ ((k : Nat) : Int) > 40 := by omega
  have v1 := fun m (hm : n ≤ m) => qVar (n := m) (h := h) (fun k hk => hg k (by omega)) k
  rw [f3_eq]; unfold c3; rw [callFn_eq (by rfl)]
  simp (disch:=first|assumption|omega|(simp (disch:=first|assumption|omega) only [sB,Nat.reduceAdd,Nat.reduceLT,Nat.reduceLeDiff,Nat.reduceEqDiff,Nat.reduceMul,↓reduceIte];done)|fail) only [sA,↓reduceIte,Nat.reduceLT,Nat.reduceEqDiff,Nat.reduceAdd,Nat.reduceLeDiff,hal,q1,q2,q3,q4,v1]
  have hgc : Gd (n + 25) h := fun k hk => hg k (by omega)
  generalize hc : n + 25 = c at hgc ⊢
  generalize hr : LX (cF Tryd.prog) (.loop l3_0) _ _ _ = rr
  obtain ⟨x,e2,n2,h2,rfl,rfl,rfl,z0,z1,z2,z3,z8,z9⟩ := loop_up hr N
    (fun i e n' h' => h' = (c,(Ob.row 6 [.agg [.int .i64 (lamN hid (k : Nat) i).form,.int .i64 (lamN hid (k : Nat) i).n,.bool (lamN hid (k : Nat) i).hid,.str (lamN hid (k : Nat) i).name,slD 2 encL (lamN hid (k : Nat) i).levels,slD 6 encT (lamN hid (k : Nat) i).kids]])) :: h ∧ c + 1 ≤ n' ∧ get (po 0) e = .int .i64 (N : Nat) ∧ get (po 1) e = .int .i64 (k : Nat) ∧ get (po 2) e = .bool hid ∧ get (po 8) e = .ptr c 0 0 ∧ get (po 9) e = .str (wnt hid i) ∧ get (po 10) e = .int .i64 (i : Nat))
    (fun x e n' h' => x = .exit 0 ∧ h' = (c,(Ob.row 6 [.agg [.int .i64 (lamN hid (k : Nat) N).form,.int .i64 (lamN hid (k : Nat) N).n,.bool (lamN hid (k : Nat) N).hid,.str (lamN hid (k : Nat) N).name,slD 2 encL (lamN hid (k : Nat) N).levels,slD 6 encT (lamN hid (k : Nat) N).kids]])) :: h ∧ c + 1 ≤ n' ∧ get (po 0) e = .int .i64 (N : Nat) ∧ get (po 1) e = .int .i64 (k : Nat) ∧ get (po 2) e = .bool hid ∧ get (po 8) e = .ptr c 0 0 ∧ get (po 9) e = .str (wnt hid N))
    (by
      rintro e n' h' ⟨rfl,z0,g0,g1,g2,g8,g9,g10⟩
      have q : ¬ ((N : Nat) : Int) < (N : Nat) := by omega
      unfold l3_0
      simp (disch:=first|assumption|omega|(simp (disch:=first|assumption|omega) only [sB,Nat.reduceAdd,Nat.reduceLT,Nat.reduceLeDiff,Nat.reduceEqDiff,Nat.reduceMul,↓reduceIte];done)|fail) only [sA,↓reduceIte,Nat.reduceLT,Nat.reduceEqDiff,Nat.reduceAdd,Nat.reduceLeDiff,g0,g1,g2,g8,g9,g10,q]
      exact ⟨_,_,_,_,rfl,by simp,rfl,rfl,by omega,by simp (disch:=first|assumption|omega|(simp (disch:=first|assumption|omega) only [sB,Nat.reduceAdd,Nat.reduceLT,Nat.reduceLeDiff,Nat.reduceEqDiff,Nat.reduceMul,↓reduceIte];done)|fail) only [sA,↓reduceIte,Nat.reduceLT,Nat.reduceEqDiff,Nat.reduceAdd,Nat.reduceLeDiff,g0],by simp (disch:=first|assumption|omega|(simp (disch:=first|assumption|omega) only [sB,Nat.reduceAdd,Nat.reduceLT,Nat.reduceLeDiff,Nat.reduceEqDiff,Nat.reduceMul,↓reduceIte];done)|fail) only [sA,↓reduceIte,Nat.reduceLT,Nat.reduceEqDiff,Nat.reduceAdd,Nat.reduceLeDiff,g1],by simp (disch:=first|assumption|omega|(simp (disch:=first|assumption|omega) only [sB,Nat.reduceAdd,Nat.reduceLT,Nat.reduceLeDiff,Nat.reduceEqDiff,Nat.reduceMul,↓reduceIte];done)|fail) only [sA,↓reduceIte,Nat.reduceLT,Nat.reduceEqDiff,Nat.reduceAdd,Nat.reduceLeDiff,g2],by simp (disch:=first|assumption|omega|(simp (disch:=first|assumption|omega) only [sB,Nat.reduceAdd,Nat.reduceLT,Nat.reduceLeDiff,Nat.reduceEqDiff,Nat.reduceMul,↓reduceIte];done)|fail) only [sA,↓reduceIte,Nat.reduceLT,Nat.reduceEqDiff,Nat.reduceAdd,Nat.reduceLeDiff,g8],by simp (disch:=first|assumption|omega|(simp (disch:=first|assumption|omega) only [sB,Nat.reduceAdd,Nat.reduceLT,Nat.reduceLeDiff,Nat.reduceEqDiff,Nat.reduceMul,↓reduceIte];done)|fail) only [sA,↓reduceIte,Nat.reduceLT,Nat.reduceEqDiff,Nat.reduceAdd,Nat.reduceLeDiff,g9]⟩)
    (by
      rintro i e n' h' hi ⟨rfl,z0,g0,g1,g2,g8,g9,g10⟩
      obtain ⟨e2,n2,a1,a2,a3,a4,a5,a6,a7,a8⟩ := dBody hgc hi hN2 z0 g0 g1 g2 g8 g9 g10
      exact ⟨_,_,_,_,a1,.inl ⟨rfl,rfl,a2,a3,a4,a5,a6,a7,a8⟩⟩)
    ⟨rfl,by omega,by simp (disch:=first|assumption|omega|(simp (disch:=first|assumption|omega) only [sB,Nat.reduceAdd,Nat.reduceLT,Nat.reduceLeDiff,Nat.reduceEqDiff,Nat.reduceMul,↓reduceIte];done)|fail) only [sA,↓reduceIte,Nat.reduceLT,Nat.reduceEqDiff,Nat.reduceAdd,Nat.reduceLeDiff],by simp (disch:=first|assumption|omega|(simp (disch:=first|assumption|omega) only [sB,Nat.reduceAdd,Nat.reduceLT,Nat.reduceLeDiff,Nat.reduceEqDiff,Nat.reduceMul,↓reduceIte];done)|fail) only [sA,↓reduceIte,Nat.reduceLT,Nat.reduceEqDiff,Nat.reduceAdd,Nat.reduceLeDiff],by simp (disch:=first|assumption|omega|(simp (disch:=first|assumption|omega) only [sB,Nat.reduceAdd,Nat.reduceLT,Nat.reduceLeDiff,Nat.reduceEqDiff,Nat.reduceMul,↓reduceIte];done)|fail) only [sA,↓reduceIte,Nat.reduceLT,Nat.reduceEqDiff,Nat.reduceAdd,Nat.reduceLeDiff],by simp (disch:=first|assumption|omega|(simp (disch:=first|assumption|omega) only [sB,Nat.reduceAdd,Nat.reduceLT,Nat.reduceLeDiff,Nat.reduceEqDiff,Nat.reduceMul,↓reduceIte];done)|fail) only [sA,↓reduceIte,Nat.reduceLT,Nat.reduceEqDiff,Nat.reduceAdd,Nat.reduceLeDiff],by first | (simp (disch:=first|assumption|omega|(simp (disch:=first|assumption|omega) only [sB,Nat.reduceAdd,Nat.reduceLT,Nat.reduceLeDiff,Nat.reduceEqDiff,Nat.reduceMul,↓reduceIte];done)|fail) only [sA,↓reduceIte,Nat.reduceLT,Nat.reduceEqDiff,Nat.reduceAdd,Nat.reduceLeDiff]; done) | (simp (disch:=first|assumption|omega|(simp (disch:=first|assumption|omega) only [sB,Nat.reduceAdd,Nat.reduceLT,Nat.reduceLeDiff,Nat.reduceEqDiff,Nat.reduceMul,↓reduceIte];done)|fail) only [sA,↓reduceIte,Nat.reduceLT,Nat.reduceEqDiff,Nat.reduceAdd,Nat.reduceLeDiff]; rfl),by simp (disch:=first|assumption|omega|(simp (disch:=first|assumption|omega) only [sB,Nat.reduceAdd,Nat.reduceLT,Nat.reduceLeDiff,Nat.reduceEqDiff,Nat.reduceMul,↓reduceIte];done)|fail) only [sA,↓reduceIte,Nat.reduceLT,Nat.reduceEqDiff,Nat.reduceAdd,Nat.reduceLeDiff]⟩
  have GN : ∀ m,c + 1 ≤ m → Gd m ((c,(Ob.row 6 [.agg [.int .i64 (lamN hid (k : Nat) N).form,.int .i64 (lamN hid (k : Nat) N).n,.bool (lamN hid (k : Nat) N).hid,.str (lamN hid (k : Nat) N).name,slD 2 encL (lamN hid (k : Nat) N).levels,slD 6 encT (lamN hid (k : Nat) N).kids]])) :: h) := fun m hm k2 hk2 => ((Hp.start hgc).box (r := c) (m := c + 1) (Nat.le_refl _) (by omega) (flatTA (lamN hid (k : Nat) N))).good k2 (by omega)
  have mx : (if (0 : Int) < (k : Nat) - (N : Nat) then ((k : Nat) : Int) - (N : Nat) else 0) = ((k - N : Nat) : Int) := by split <;> omega
  have m1 := fun m (hm : c + 1 ≤ m) => qMax (n := m) (GN m hm) 0 ((k : Nat) - (N : Nat))
  rw [mx] at m1
  have d1 := fun m (hm : c + 1 ≤ m) => qDig (n := m) (GN m hm) (v := k - N) (by omega)
  have wl := wnt_len hid N
  have l1 := dig_len (k - N)
  have l2 := dig_len (N - 1 - k)
  have a1 : binD .add (.str [102]) (.str (dig (k - N))) = .str (102 :: dig (k - N)) := str_add (by simp; omega)
  have ht := mtxt_wnt hid k N 0
  rw [Nat.add_zero] at ht
  replace ht : mtxt hid k N 0 = wnt hid N ++ vtxt k N := ht
  have hch := lam_ok hid N (by omega) k (by omega)
  have P := fun n h hg => pTerm (T := lamN hid (k : Nat) N) (c := 2 + 5 * N) (C := 9 * strN 4 0) (S := mtxt hid k N 0) hch.2 hch.1 (by omega) (fun {n h} hg {r q L} W hL => wLamN (by omega) (by omega) N hg W hL) (fun {n h} hg {r q S} P hl => tN hid (by omega) N 0 (by omega) hg P hl) (mtxt_ne hid k N 0) (mtxt_lt hid (by omega) N 0 (by omega)) (by have := mtxt_len hid k N 0; omega) (n := n) (h := h) hg
  rw [ht] at P
  by_cases hkN : k < N
  · have q5 : ((k : Nat) : Int) < (N : Nat) := by omega
    have d2 := fun m (hm : c + 1 ≤ m) => qDig (n := m) (GN m hm) (v := N - 1 - k) (by omega)
    rw [show ((N - 1 - k : Nat) : Int) = (N : Nat) - 1 - (k : Nat) by omega] at d2
    have a2 : binD .add (.str [120]) (.str (dig (N - 1 - k))) = .str (120 :: dig (N - 1 - k)) := str_add (by simp; omega)
    have a3 : binD .add (.str (wnt hid N)) (.str (120 :: dig (N - 1 - k))) = .str (wnt hid N ++ 120 :: dig (N - 1 - k)) := str_add (by simp; omega)
    have ev : vtxt k N = 120 :: dig (N - 1 - k) := by unfold vtxt; rw [if_pos hkN]
    rw [ev] at P
    obtain ⟨n3,h3,e3,b3⟩ := P (n2 + 22) ((c,(Ob.row 6 [.agg [.int .i64 (lamN hid (k : Nat) N).form,.int .i64 (lamN hid (k : Nat) N).n,.bool (lamN hid (k : Nat) N).hid,.str (lamN hid (k : Nat) N).name,slD 2 encL (lamN hid (k : Nat) N).levels,slD 6 encT (lamN hid (k : Nat) N).kids]])) :: h) (GN _ (by omega))
    simp (disch:=first|assumption|omega|(simp (disch:=first|assumption|omega) only [sB,Nat.reduceAdd,Nat.reduceLT,Nat.reduceLeDiff,Nat.reduceEqDiff,Nat.reduceMul,↓reduceIte];done)|fail) only [sA,↓reduceIte,Nat.reduceLT,Nat.reduceEqDiff,Nat.reduceAdd,Nat.reduceLeDiff,z1,z2,z3,z8,z9,m1,d1,a1,q5,d2,a2,e3,a3,eqS]
    exact fin_bool
  · have q5 : ¬ ((k : Nat) : Int) < (N : Nat) := by omega
    have a3 : binD .add (.str (wnt hid N)) (.str (102 :: dig (k - N))) = .str (wnt hid N ++ 102 :: dig (k - N)) := str_add (by simp; omega)
    have ev : vtxt k N = 102 :: dig (k - N) := by unfold vtxt; rw [if_neg hkN]
    rw [ev] at P
    obtain ⟨n3,h3,e3,b3⟩ := P (n2 + 14) ((c,(Ob.row 6 [.agg [.int .i64 (lamN hid (k : Nat) N).form,.int .i64 (lamN hid (k : Nat) N).n,.bool (lamN hid (k : Nat) N).hid,.str (lamN hid (k : Nat) N).name,slD 2 encL (lamN hid (k : Nat) N).levels,slD 6 encT (lamN hid (k : Nat) N).kids]])) :: h) (GN _ (by omega))
    simp (disch:=first|assumption|omega|(simp (disch:=first|assumption|omega) only [sB,Nat.reduceAdd,Nat.reduceLT,Nat.reduceLeDiff,Nat.reduceEqDiff,Nat.reduceMul,↓reduceIte];done)|fail) only [sA,↓reduceIte,Nat.reduceLT,Nat.reduceEqDiff,Nat.reduceAdd,Nat.reduceLeDiff,z1,z2,z3,z8,z9,m1,d1,a1,q5,e3,a3,eqS]
    exact fin_bool
end Go.Proofs.YtpbpmpabndgeeaaDoor
