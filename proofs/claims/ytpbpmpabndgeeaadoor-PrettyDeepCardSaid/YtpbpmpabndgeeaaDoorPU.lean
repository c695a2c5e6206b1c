/- The printer's rows of strings and numbers. No condition but lengths. -/
import Derived.Test.YtpbpmpabndgeeaaDoorPT
set_option linter.unusedSimpArgs false
set_option linter.unusedVariables false
namespace Go.Proofs.YtpbpmpabndgeeaaDoor
open Go

def POk (C n : Nat) (h : Hps) (r q : Nat) (S T : List Nat) (R : Rd) : Prop :=
  ∃ n' h' q',R = .ok (.tup []) n' h' ∧ Stp n h n' h' r q ∧ Pst r (S ++ T) q' h' ∧ n ≤ q' ∧ q' < n' ∧ n' ≤ n + C
theorem pst_fin {n n2 : Nat} {h : Hps} {r q : Nat} {S : List Nat} {d : D} (P : Pst r S q h) (hr : r < n) (hq : n ≤ q) : finishD n n2 h d = .ok d n2 h := by
  rcases P with ⟨_,rfl,_⟩ | ⟨_,_,g1,_⟩
  · omega
  · exact finish_leak (leak_at hr g1 (by rw [tob_r,r_ms,ble_iff n q,decide_eq_true hq,Bool.or_true]))
theorem pok_end {C n n2 : Nat} {h h2 : Hps} {r q q2 : Nat} {S T S2 : List Nat} (hr : r < n) (P2 : Pst r S2 q2 h2) (hS : S2 = S ++ T) (hq : n ≤ q2) (hq2 : q2 < n2) (hg : Gd n2 h2) (hk : ∀ x,x < n → x ≠ r → x ≠ q → getO h2 x = getO h x) (hC : n2 ≤ n + C) :
    POk C n h r q S T (finishD n n2 h2 (.tup [])) :=
  ⟨n2,h2,q2,pst_fin P2 hr hq,⟨by omega,hg,hk⟩,hS ▸ P2,hq,hq2,hC⟩
theorem Pst.lt {n : Nat} {h : Hps} (hg : Gd n h) {r q : Nat} {S : List Nat} (P : Pst r S q h) : r < n ∧ q < n := by
  have hgn := hg n (Nat.le_refl _)
  rcases P with ⟨_,rfl,a,g1,_⟩ | ⟨_,_,g1,g2⟩
  · have := getO_low (r := q) hgn (by rw [g1]; exact fun e => by cases e)
    exact ⟨this,this⟩
  · exact ⟨getO_low hgn (by rw [g1]; exact fun e => by cases e),getO_low hgn (by rw [g2]; exact fun e => by cases e)⟩
theorem Pst.cons {n : Nat} {h : Hps} (hg : Gd n h) {r q x : Nat} {S : List Nat} {o : Ob} (P : Pst r S q h) (hx : n ≤ x) : Pst r S q ((x,o) :: h) := by
  obtain ⟨h1,h2⟩ := P.lt hg
  rcases P with ⟨a,b,c,g1,d⟩ | ⟨a,b,g1,g2⟩
  · exact .inl ⟨a,b,c,by rw [getO_tl (by omega)]; exact g1,d⟩
  · exact .inr ⟨a,b,by rw [getO_tl (by omega)]; exact g1,by rw [getO_tl (by omega)]; exact g2⟩
set_option maxHeartbeats 4000000 in
theorem put1 {n : Nat} {h : Hps} (hg : Gd n h) {r q : Nat} {S : List Nat} (P : Pst r S q h) {s : List Nat} (hs : s ≠ []) (hl : S.length + s.length < 1000000000) :
    POk 100 n h r q S s (callFn (LX (cF Tryd.prog)) n h [.ptr r 0 0,.sl 1 [.str s] [] true] (cF Tryd.prog 36)) := by
  have hgn := hg n (Nat.le_refl _)
  obtain ⟨hr,hq⟩ := P.lt hg
  have c1 : ∀ m g,lenD m g .slice (.sl 1 [.str s] [] true) = .ok (.int .i64 1) m g := fun _ _ => rfl
  have c2 : ∀ m g,iaddrD m g 1 (.sl 1 [.str s] [] true) 0 = .ok (.ip (.str s) 0) m g := fun _ _ => rfl
  obtain ⟨n1,h1',q1',e1,s1,P1,i1,j1,b1⟩ := pWS (n := n + 12) (fun k hk => hg k (by omega)) P hs hl
  have := s1.le
  rw [f36_eq]; unfold c36; rw [callFn_eq (by rfl)]
  simp (disch:=first|assumption|omega|(simp (disch:=first|assumption|omega) only [sB,Nat.reduceAdd,Nat.reduceLT,Nat.reduceLeDiff,Nat.reduceEqDiff,Nat.reduceMul,↓reduceIte];done)|fail) only [sA,↓reduceIte,Nat.reduceLT,Nat.reduceEqDiff,Nat.reduceAdd,Nat.reduceLeDiff,c1]
  rw [LX_loop]
  unfold l36_0
  simp (disch:=first|assumption|omega|(simp (disch:=first|assumption|omega) only [sB,Nat.reduceAdd,Nat.reduceLT,Nat.reduceLeDiff,Nat.reduceEqDiff,Nat.reduceMul,↓reduceIte];done)|fail) only [sA,↓reduceIte,Nat.reduceLT,Nat.reduceEqDiff,Nat.reduceAdd,Nat.reduceLeDiff,c1,c2,e1]
  rw [LX_loop]
  simp (disch:=first|assumption|omega|(simp (disch:=first|assumption|omega) only [sB,Nat.reduceAdd,Nat.reduceLT,Nat.reduceLeDiff,Nat.reduceEqDiff,Nat.reduceMul,↓reduceIte];done)|fail) only [sA,↓reduceIte,Nat.reduceLT,Nat.reduceEqDiff,Nat.reduceAdd,Nat.reduceLeDiff,c1]
  exact pok_end hr P1 rfl (by omega) (by omega) (fun k hk => s1.good k (by omega)) (fun x a b c => by rw [s1.keep x (by omega) b c]) (by omega)
set_option maxHeartbeats 4000000 in
theorem put2 {n : Nat} {h : Hps} (hg : Gd n h) {r q : Nat} {S : List Nat} (P : Pst r S q h) {s t : List Nat} (hs : s ≠ []) (ht : t ≠ []) (hl : S.length + s.length + t.length < 1000000000) :
    POk 200 n h r q S (s ++ t) (callFn (LX (cF Tryd.prog)) n h [.ptr r 0 0,.sl 1 [.str s,.str t] [] true] (cF Tryd.prog 36)) := by
  have hgn := hg n (Nat.le_refl _)
  obtain ⟨hr,hq⟩ := P.lt hg
  have c1 : ∀ m g,lenD m g .slice (.sl 1 [.str s,.str t] [] true) = .ok (.int .i64 2) m g := fun _ _ => rfl
  have c2 : ∀ m g,iaddrD m g 1 (.sl 1 [.str s,.str t] [] true) 0 = .ok (.ip (.str s) 0) m g := fun _ _ => rfl
  have c3 : ∀ m g,natR (iaddrD m g 1 (.sl 1 [.str s,.str t] [] true)) (.int .i64 (0 + 1)) = .ok (.ip (.str t) 0) m g := fun _ _ => rfl
  obtain ⟨n1,h1',q1',e1,s1,P1,i1,j1,b1⟩ := pWS (n := n + 12) (fun k hk => hg k (by omega)) P hs (by omega)
  have := s1.le
  obtain ⟨n2,h2',q2',e2,s2,P2,i2,j2,b2⟩ := pWS (n := n1 + 12) (fun k hk => s1.good k (by omega)) P1 ht (by rw [List.length_append]; omega)
  have := s2.le
  rw [f36_eq]; unfold c36; rw [callFn_eq (by rfl)]
  simp (disch:=first|assumption|omega|(simp (disch:=first|assumption|omega) only [sB,Nat.reduceAdd,Nat.reduceLT,Nat.reduceLeDiff,Nat.reduceEqDiff,Nat.reduceMul,↓reduceIte];done)|fail) only [sA,↓reduceIte,Nat.reduceLT,Nat.reduceEqDiff,Nat.reduceAdd,Nat.reduceLeDiff,c1]
  rw [LX_loop]
  unfold l36_0
  simp (disch:=first|assumption|omega|(simp (disch:=first|assumption|omega) only [sB,Nat.reduceAdd,Nat.reduceLT,Nat.reduceLeDiff,Nat.reduceEqDiff,Nat.reduceMul,↓reduceIte];done)|fail) only [sA,↓reduceIte,Nat.reduceLT,Nat.reduceEqDiff,Nat.reduceAdd,Nat.reduceLeDiff,c1,c2,e1]
  rw [LX_loop]
  simp (disch:=first|assumption|omega|(simp (disch:=first|assumption|omega) only [sB,Nat.reduceAdd,Nat.reduceLT,Nat.reduceLeDiff,Nat.reduceEqDiff,Nat.reduceMul,↓reduceIte];done)|fail) only [sA,↓reduceIte,Nat.reduceLT,Nat.reduceEqDiff,Nat.reduceAdd,Nat.reduceLeDiff,c1,c3,e2]
  rw [LX_loop]
  simp (disch:=first|assumption|omega|(simp (disch:=first|assumption|omega) only [sB,Nat.reduceAdd,Nat.reduceLT,Nat.reduceLeDiff,Nat.reduceEqDiff,Nat.reduceMul,↓reduceIte];done)|fail) only [sA,↓reduceIte,Nat.reduceLT,Nat.reduceEqDiff,Nat.reduceAdd,Nat.reduceLeDiff,c1]
  exact pok_end hr P2 (List.append_assoc ..) (by omega) (by omega) (fun k hk => s2.good k (by omega)) (fun x a b c => by rw [s2.keep x (by omega) b (by omega),s1.keep x (by omega) b c]) (by omega)
set_option maxHeartbeats 4000000 in
theorem put3 {n : Nat} {h : Hps} (hg : Gd n h) {r q : Nat} {S : List Nat} (P : Pst r S q h) {s t u : List Nat} (hs : s ≠ []) (ht : t ≠ []) (hu : u ≠ []) (hl : S.length + s.length + t.length + u.length < 1000000000) :
    POk 300 n h r q S (s ++ t ++ u) (callFn (LX (cF Tryd.prog)) n h [.ptr r 0 0,.sl 1 [.str s,.str t,.str u] [] true] (cF Tryd.prog 36)) := by
  have hgn := hg n (Nat.le_refl _)
  obtain ⟨hr,hq⟩ := P.lt hg
  have c1 : ∀ m g,lenD m g .slice (.sl 1 [.str s,.str t,.str u] [] true) = .ok (.int .i64 3) m g := fun _ _ => rfl
  have c2 : ∀ m g,iaddrD m g 1 (.sl 1 [.str s,.str t,.str u] [] true) 0 = .ok (.ip (.str s) 0) m g := fun _ _ => rfl
  have c3 : ∀ m g,natR (iaddrD m g 1 (.sl 1 [.str s,.str t,.str u] [] true)) (.int .i64 (0 + 1)) = .ok (.ip (.str t) 0) m g := fun _ _ => rfl
  have c4 : ∀ m g,natR (iaddrD m g 1 (.sl 1 [.str s,.str t,.str u] [] true)) (.int .i64 (0 + 1 + 1)) = .ok (.ip (.str u) 0) m g := fun _ _ => rfl
  obtain ⟨n1,h1',q1',e1,s1,P1,i1,j1,b1⟩ := pWS (n := n + 12) (fun k hk => hg k (by omega)) P hs (by omega)
  have := s1.le
  obtain ⟨n2,h2',q2',e2,s2,P2,i2,j2,b2⟩ := pWS (n := n1 + 12) (fun k hk => s1.good k (by omega)) P1 ht (by rw [List.length_append]; omega)
  have := s2.le
  obtain ⟨n3,h3',q3',e3,s3,P3,i3,j3,b3⟩ := pWS (n := n2 + 12) (fun k hk => s2.good k (by omega)) P2 hu (by rw [List.length_append,List.length_append]; omega)
  have := s3.le
  rw [f36_eq]; unfold c36; rw [callFn_eq (by rfl)]
  simp (disch:=first|assumption|omega|(simp (disch:=first|assumption|omega) only [sB,Nat.reduceAdd,Nat.reduceLT,Nat.reduceLeDiff,Nat.reduceEqDiff,Nat.reduceMul,↓reduceIte];done)|fail) only [sA,↓reduceIte,Nat.reduceLT,Nat.reduceEqDiff,Nat.reduceAdd,Nat.reduceLeDiff,c1]
  rw [LX_loop]
  unfold l36_0
  simp (disch:=first|assumption|omega|(simp (disch:=first|assumption|omega) only [sB,Nat.reduceAdd,Nat.reduceLT,Nat.reduceLeDiff,Nat.reduceEqDiff,Nat.reduceMul,↓reduceIte];done)|fail) only [sA,↓reduceIte,Nat.reduceLT,Nat.reduceEqDiff,Nat.reduceAdd,Nat.reduceLeDiff,c1,c2,e1]
  rw [LX_loop]
  simp (disch:=first|assumption|omega|(simp (disch:=first|assumption|omega) only [sB,Nat.reduceAdd,Nat.reduceLT,Nat.reduceLeDiff,Nat.reduceEqDiff,Nat.reduceMul,↓reduceIte];done)|fail) only [sA,↓reduceIte,Nat.reduceLT,Nat.reduceEqDiff,Nat.reduceAdd,Nat.reduceLeDiff,c1,c3,e2]
  rw [LX_loop]
  simp (disch:=first|assumption|omega|(simp (disch:=first|assumption|omega) only [sB,Nat.reduceAdd,Nat.reduceLT,Nat.reduceLeDiff,Nat.reduceEqDiff,Nat.reduceMul,↓reduceIte];done)|fail) only [sA,↓reduceIte,Nat.reduceLT,Nat.reduceEqDiff,Nat.reduceAdd,Nat.reduceLeDiff,c1,c4,e3]
  rw [LX_loop]
  simp (disch:=first|assumption|omega|(simp (disch:=first|assumption|omega) only [sB,Nat.reduceAdd,Nat.reduceLT,Nat.reduceLeDiff,Nat.reduceEqDiff,Nat.reduceMul,↓reduceIte];done)|fail) only [sA,↓reduceIte,Nat.reduceLT,Nat.reduceEqDiff,Nat.reduceAdd,Nat.reduceLeDiff,c1]
  exact pok_end hr P3 (by simp only [List.append_assoc]) (by omega) (by omega) (fun k hk => s3.good k (by omega)) (fun x a b c => by rw [s3.keep x (by omega) b (by omega),s2.keep x (by omega) b (by omega),s1.keep x (by omega) b c]) (by omega)
def dig (v : Nat) : List Nat := if v < 10 then [48 + v] else [48 + v / 10,48 + v % 10]
def cutA : List Nat := [48,49,50,51,52,53,54,55,56,57,97,98,99,100,101,102,103,104,105,106,107,108,109,110,111,112,113,114,115,116,117,118,119,120,121,122]
def cutB : List Nat := [48,48,48,49,48,50,48,51,48,52,48,53,48,54,48,55,48,56,48,57,49,48,49,49,49,50,49,51,49,52,49,53,49,54,49,55,49,56,49,57,50,48,50,49,50,50,50,51,50,52,50,53,50,54,50,55,50,56,50,57,51,48,51,49,51,50,51,51,51,52,51,53,51,54,51,55,51,56,51,57,52,48,52,49,52,50,52,51,52,52,52,53,52,54,52,55,52,56,52,57,53,48,53,49,53,50,53,51,53,52,53,53,53,54,53,55,53,56,53,57,54,48,54,49,54,50,54,51,54,52,54,53,54,54,54,55,54,56,54,57,55,48,55,49,55,50,55,51,55,52,55,53,55,54,55,55,55,56,55,57,56,48,56,49,56,50,56,51,56,52,56,53,56,54,56,55,56,56,56,57,57,48,57,49,57,50,57,51,57,52,57,53,57,54,57,55,57,56,57,57]
theorem ssl_eq {n : Nat} {h : Hps} {e : Tr} {s : List Nat} {x y : Opd} : ssliceD n h e (.str s) (some x) (some y) = natR (fun l => natR (fun u => slS n h s l u) (ev e y)) (ev e x) := rfl
theorem cutA_ok : ∀ v,v < 10 → takeN (v + 1 - v) (dropN v cutA) = dig v := by decide +kernel
theorem cutB_ok : ∀ v,v < 100 → takeN (v * 2 + 2 - v * 2) (dropN (v * 2) cutB) = [48 + v / 10,48 + v % 10] := by decide +kernel
theorem slA {v m : Nat} {g : Hps} (h : v < 10) : slS m g cutA v (v + 1) = .ok (.str (dig v)) m g := by
  show ifR (Bool.and (Nat.ble (v + 1) 36) (Nat.ble v (v + 1))) (.ok (.str (takeN (v + 1 - v) (dropN v cutA))) m g) = _
  rw [cutA_ok v h,ble_iff,ble_iff,decide_eq_true (by omega),decide_eq_true (by omega)]; rfl
theorem slB {v m : Nat} {g : Hps} (h : v < 100) (h1 : ¬ v < 10) : slS m g cutB (v * 2) (v * 2 + 2) = .ok (.str (dig v)) m g := by
  show ifR (Bool.and (Nat.ble (v * 2 + 2) 200) (Nat.ble (v * 2) (v * 2 + 2))) (.ok (.str (takeN (v * 2 + 2 - v * 2) (dropN (v * 2) cutB))) m g) = _
  rw [cutB_ok v h,ble_iff,ble_iff,decide_eq_true (by omega),decide_eq_true (by omega)]
  show Rd.ok _ _ _ = _
  unfold dig; rw [if_neg h1]
theorem mul2 {v : Nat} (h : v < 100) : binD .mul (.int .i64 (v : Nat)) (.int .i64 2) = .int .i64 ((v * 2 : Nat) : Int) := by
  show D.int .i64 (wr .i64 ((v : Int) * 2)) = _
  rw [wr_in (by omega) (by omega)]
  congr 1
set_option maxHeartbeats 4000000 in
theorem pSmall {v : Nat} (hv : v < 100) (n : Nat) (h : Hps) (hg : Gd n h) : callFn (LX (cF Tryd.prog)) n h [.int .i64 (v : Nat)] (cF Tryd.prog 58) = .ok (.str (dig v)) n h := by
  have hgn := hg n (Nat.le_refl _)
  rw [f58_eq]; unfold c58; rw [callFn_eq (by rfl)]
  by_cases h1 : v < 10
  · have q1 : ((v : Nat) : Int) < 10 := by omega
    have c1 := fun m g => slA (m := m) (g := g) h1
    unfold cutA at c1
    simp (disch:=first|assumption|omega|(simp (disch:=first|assumption|omega) only [sB,Nat.reduceAdd,Nat.reduceLT,Nat.reduceLeDiff,Nat.reduceEqDiff,Nat.reduceMul,↓reduceIte];done)|fail) only [sA,↓reduceIte,Nat.reduceLT,Nat.reduceEqDiff,Nat.reduceAdd,Nat.reduceLeDiff,q1,ssl_eq,c1]
  · have q1 : ¬ ((v : Nat) : Int) < 10 := by omega
    have c1 := fun m g => slB (m := m) (g := g) hv h1
    dsimp only [cutB] at c1
    have c2 := mul2 hv
    have c3 : ∀ f : Nat → Rd,natR f (.int .i64 (((v * 2 : Nat) : Int) + 2)) = f (v * 2 + 2) := fun _ => rfl
    simp (disch:=first|assumption|omega|(simp (disch:=first|assumption|omega) only [sB,Nat.reduceAdd,Nat.reduceLT,Nat.reduceLeDiff,Nat.reduceEqDiff,Nat.reduceMul,↓reduceIte];done)|fail) only [sA,↓reduceIte,Nat.reduceLT,Nat.reduceEqDiff,Nat.reduceAdd,Nat.reduceLeDiff,q1,ssl_eq,c1,c2,c3]
set_option maxHeartbeats 4000000 in
theorem pItoa {v : Nat} (hv : v < 100) (n : Nat) (h : Hps) (hg : Gd n h) : callFn (LX (cF Tryd.prog)) n h [.int .i64 (v : Nat)] (cF Tryd.prog 46) = .ok (.str (dig v)) n h := by
  have hgn := hg n (Nat.le_refl _)
  have c1 := fun m (hm : n ≤ m) => pSmall hv m h (fun k hk => hg k (by omega))
  have q1 : ((v : Nat) : Int) < 100 := by omega
  have q2 : (0 : Int) ≤ ((v : Nat) : Int) := by omega
  have b1 : ∀ m (hm : n ≤ m),callFn (LX (cF Tryd.prog)) m h [.int .i64 (v : Nat),.int .i64 10] (cF Tryd.prog 55) = .ok (.str (dig v)) m h := fun m hm => by
    have hgn := hg m hm
    rw [f55_eq]; unfold c55; rw [callFn_eq (by rfl)]
    simp (disch:=first|assumption|omega|(simp (disch:=first|assumption|omega) only [sB,Nat.reduceAdd,Nat.reduceLT,Nat.reduceLeDiff,Nat.reduceEqDiff,Nat.reduceMul,↓reduceIte];done)|fail) only [sA,↓reduceIte,Nat.reduceLT,Nat.reduceEqDiff,Nat.reduceAdd,Nat.reduceLeDiff,q1,q2,c1]
  have b2 : ∀ m (hm : n ≤ m),callFn (LX (cF Tryd.prog)) m h [.int .i64 (v : Nat)] (cF Tryd.prog 51) = .ok (.str (dig v)) m h := fun m hm => by
    have hgn := hg m hm
    rw [f51_eq]; unfold c51; rw [callFn_eq (by rfl)]
    simp (disch:=first|assumption|omega|(simp (disch:=first|assumption|omega) only [sB,Nat.reduceAdd,Nat.reduceLT,Nat.reduceLeDiff,Nat.reduceEqDiff,Nat.reduceMul,↓reduceIte];done)|fail) only [sA,↓reduceIte,Nat.reduceLT,Nat.reduceEqDiff,Nat.reduceAdd,Nat.reduceLeDiff,b1]
  rw [f46_eq]; unfold c46; rw [callFn_eq (by rfl)]
  simp (disch:=first|assumption|omega|(simp (disch:=first|assumption|omega) only [sB,Nat.reduceAdd,Nat.reduceLT,Nat.reduceLeDiff,Nat.reduceEqDiff,Nat.reduceMul,↓reduceIte];done)|fail) only [sA,↓reduceIte,Nat.reduceLT,Nat.reduceEqDiff,Nat.reduceAdd,Nat.reduceLeDiff,b2]
theorem dig_ne (v : Nat) : dig v ≠ [] := by unfold dig; split <;> simp
theorem dig_len (v : Nat) : (dig v).length ≤ 2 := by unfold dig; split <;> simp
set_option maxHeartbeats 4000000 in
theorem pNum {n : Nat} {h : Hps} (hg : Gd n h) {r q : Nat} {S : List Nat} (P : Pst r S q h) {v : Nat} (hv : v < 100) (hl : S.length < 900000000) :
    POk 200 n h r q S (dig v) (callFn (LX (cF Tryd.prog)) n h [.ptr r 0 0,.int .i64 (v : Nat)] (cF Tryd.prog 37)) := by
  have hgn := hg n (Nat.le_refl _)
  obtain ⟨hr,hq⟩ := P.lt hg
  have c1 := fun m (hm : n ≤ m) => pItoa hv m h (fun k hk => hg k (by omega))
  obtain ⟨n1,h1',q1',e1,s1,P1,i1,j1,b1⟩ := put1 (n := n + 6) (fun k hk => hg k (by omega)) P (dig_ne v) (by have := dig_len v; omega)
  have := s1.le
  rw [f37_eq]; unfold c37; rw [callFn_eq (by rfl)]
  simp (disch:=first|assumption|omega|(simp (disch:=first|assumption|omega) only [sB,Nat.reduceAdd,Nat.reduceLT,Nat.reduceLeDiff,Nat.reduceEqDiff,Nat.reduceMul,↓reduceIte];done)|fail) only [sA,↓reduceIte,Nat.reduceLT,Nat.reduceEqDiff,Nat.reduceAdd,Nat.reduceLeDiff,c1,e1]
  exact pok_end hr P1 rfl (by omega) (by omega) (fun k hk => s1.good k (by omega)) (fun x a b c => by rw [s1.keep x (by omega) b c]) (by omega)
end Go.Proofs.YtpbpmpabndgeeaaDoor
