/- What tells a row of lambdas' bytes, and its text. -/
import Derived.Test.YtpbpmpabndgeeaaDoorPL
set_option linter.unusedSimpArgs false
set_option linter.unusedVariables false
namespace Go.Proofs.YtpbpmpabndgeeaaDoor
open Go

theorem okD_nj {a : D} (h : a ≠ .junk) (m : Nat) (g : Hps) : okD m g a = .ok a m g := by
  cases a <;> first | rfl | exact absurd rfl h
theorem nj_okD {a : D} (h : ∀ m g,okD m g a = .ok a m g) : a ≠ .junk := fun e => by
  subst e; have := h 0 []; cases this
theorem fin_two {n m : Nat} {h : Hps} {a : D} {v : Int} (ha : a ≠ .junk) (hnm : n ≤ m) (hg : Gd m h) : ∃ a' n' h',finishD n m h (.tup [a,.int .i64 v]) = .ok (.tup [a',.int .i64 v]) n' h' ∧ a' ≠ .junk ∧ n ≤ n' ∧ Gd n' h' ∧ ∀ x,x < n → getO h' x = getO h x := by
  obtain ⟨d',n',h',hd,e,r1,r2,r3⟩ := fin_any (d := .tup [a,.int .i64 v]) hnm hg
  rcases hd with rfl | ⟨rfl,hj⟩
  · exact ⟨_,n',h',e,ha,r1,r2,r3⟩
  · refine ⟨frz h n 59 a,n',h',e,fun ej => ?_,r1,r2,r3⟩
    have hj2 : Bool.not (allL (fun d => Bool.not (hasJ 19 d)) [frz h n 59 a,.int .i64 v]) = false := hj
    rw [ej] at hj2
    cases hj2
theorem fin_str {n m : Nat} {h : Hps} {s : List Nat} (hnm : n ≤ m) (hg : Gd m h) : ∃ n' h',finishD n m h (.str s) = .ok (.str s) n' h' ∧ n ≤ n' ∧ Gd n' h' ∧ ∀ x,x < n → getO h' x = getO h x := by
  obtain ⟨d',n',h',hd,e,r1,r2,r3⟩ := fin_any (d := .str s) hnm hg
  rcases hd with rfl | ⟨rfl,_⟩
  · exact ⟨n',h',e,r1,r2,r3⟩
  · exact ⟨n',h',e,r1,r2,r3⟩
set_option maxHeartbeats 4000000 in
theorem pTold {n : Nat} {h : Hps} (hg : Gd n h) {r q : Nat} {L : List D} (W : Wst r L q h) (hL : L.length < 900000) : ∃ a n' h',callFn (LX (cF Tryd.prog)) n h [.ptr r 0 0] (cF Tryd.prog 16) = .ok (.tup [a,.int .i64 0]) n' h' ∧ a ≠ .junk ∧ n ≤ n' ∧ Gd n' h' ∧ ∀ x,x < n → getO h' x = getO h x := by
  have hgn := hg n (Nat.le_refl _)
  obtain ⟨b,g1,hb⟩ := W.get
  have o1 := fun m g => (hb m g).1
  have o2 := fun m g => (hb m g).2
  have q1 : ¬ ((L.length : Nat) : Int) > 1000000 := by omega
  rw [f16_eq]; unfold c16; rw [callFn_eq (by rfl)]
  simp (disch:=first|assumption|omega|(simp (disch:=first|assumption|omega) only [sB,Nat.reduceAdd,Nat.reduceLT,Nat.reduceLeDiff,Nat.reduceEqDiff,Nat.reduceMul,↓reduceIte,getO_tl];done)|fail) only [sA,↓reduceIte,Nat.reduceLT,Nat.reduceEqDiff,Nat.reduceAdd,Nat.reduceLeDiff,g1,o1,o2,q1,getO_tl]
  exact fin_two (nj_okD o1) (by omega) (fun k hk => hg k (by omega))
set_option maxHeartbeats 4000000 in
theorem pBytes {T : Tm} {c : Nat} (hs : saneT T.abs = true) (hc : checkT T.abs = 0) (hcl : c < 800000)
    (hw : ∀ {n : Nat} {h : Hps},Gd n h → ∀ {r q : Nat} {L : List D},Wst r L q h → L.length + c < 800000 → WOk n h r q L c (callFn (LX (cF Tryd.prog)) n h [.ptr r 0 0,(D.agg [.int .i64 (T).form,.int .i64 (T).n,.bool (T).hid,.str (T).name,slD 2 encL (T).levels,slD 6 encT (T).kids])] (cF Tryd.prog 15)))
    {n : Nat} {h : Hps} (hg : Gd n h) : ∃ a n' h',callFn (LX (cF Tryd.prog)) n h [(D.agg [.int .i64 (T).form,.int .i64 (T).n,.bool (T).hid,.str (T).name,slD 2 encL (T).levels,slD 6 encT (T).kids])] (cF Tryd.prog 11) = .ok (.tup [a,.int .i64 0]) n' h' ∧ a ≠ .junk ∧ n ≤ n' ∧ Gd n' h' ∧ ∀ x,x < n → getO h' x = getO h x := by
  have hgn := hg n (Nat.le_refl _)
  have H0 : Hp n h (n + 1) ((n,(Ob.row 6 [.agg [.int .i64 (T).form,.int .i64 (T).n,.bool (T).hid,.str (T).name,slD 2 encL (T).levels,slD 6 encT (T).kids]])) :: h) := (Hp.start hg).box (r := n) (m := n + 1) (Nat.le_refl _) (by omega) (flatTA T)
  have c1 := fun m (hm : n + 1 ≤ m) => pCheck T hs m _ (fun k hk => H0.good k (by omega))
  rw [hc] at c1
  have G1 : ∀ m,n + 11 ≤ m → Gd m ((n + 10,.row 1 [.agg [.nils]]) :: (n,(Ob.row 6 [.agg [.int .i64 (T).form,.int .i64 (T).n,.bool (T).hid,.str (T).name,slD 2 encL (T).levels,slD 6 encT (T).kids]])) :: h) := fun m hm k hk => good_cons.2 ⟨by omega,rfl,H0.good k (by omega)⟩
  have W0 : Wst (n + 10) [] (n + 10) ((n + 10,.row 1 [.agg [.nils]]) :: (n,(Ob.row 6 [.agg [.int .i64 (T).form,.int .i64 (T).n,.bool (T).hid,.str (T).name,slD 2 encL (T).levels,slD 6 encT (T).kids]])) :: h) := ⟨fun d hd => (by cases hd),.inl ⟨rfl,rfl,getO_hd⟩⟩
  obtain ⟨n1,h1',q1',L1,e1,s1,W1,i1,j1,l1⟩ := hw (G1 (n + 15) (by omega)) W0 (by simp; omega)
  have := s1.le
  obtain ⟨a,n2,h2',e2,nj,m2,g2,k2⟩ := pTold (n := n1 + 3) (fun k hk => s1.good k (by omega)) W1 (by simp at l1; omega)
  rw [f11_eq]; unfold c11; rw [callFn_eq (by rfl)]
  have o3 := okD_nj nj
  simp (disch:=first|assumption|omega|(simp (disch:=first|assumption|omega) only [sB,Nat.reduceAdd,Nat.reduceLT,Nat.reduceLeDiff,Nat.reduceEqDiff,Nat.reduceMul,↓reduceIte,getO_tl];done)|fail) only [sA,↓reduceIte,Nat.reduceLT,Nat.reduceEqDiff,Nat.reduceAdd,Nat.reduceLeDiff,c1,e1,e2,o3,getO_tl]
  obtain ⟨a',n3,h3',e3,nj3,m3,g3,k3⟩ := fin_two (v := 0) nj (n := n) (m := n2 + 5) (h := h2') (by omega) (fun k hk => g2 k (by omega))
  refine ⟨a',n3,h3',?_,nj3,m3,g3,fun x hx => by rw [k3 x hx,k2 x (by omega),s1.keep x (by omega) (by omega) (by omega),getO_tl (by omega),getO_tl (by omega)]⟩
  exact e3
set_option maxHeartbeats 4000000 in
theorem pStr {n : Nat} {h : Hps} (hg : Gd n h) {r q : Nat} {S : List Nat} (P : Pst r S q h) (hne : S ≠ []) (hS : ∀ c,c ∈ S → c < 256) : ∃ n' h',callFn (LX (cF Tryd.prog)) n h [.ptr r 0 0] (cF Tryd.prog 13) = .ok (.str S) n' h' ∧ n ≤ n' ∧ Gd n' h' := by
  have hgn := hg n (Nat.le_refl _)
  rcases P with ⟨h1,_⟩ | ⟨hn2,hqr,g1,g2⟩
  · exact absurd h1 hne
  have hb : bytesL (strL S) = .ok S := by
    clear g1 g2 hne hn2
    induction S with
    | nil => rfl
    | cons c S ih =>
      show byte1 (.int .u8 (.ofNat c)) (bytesL (strL S)) = _
      rw [ih (fun c hc => hS c (by simp [hc]))]
      show Bool.rec (motive := fun _ => BL) .bad (.ok (c :: S)) (Bool.and true (Nat.blt c 256)) = _
      rw [blt_iff,decide_eq_true (hS c (by simp))]
      rfl
  obtain ⟨n',h',e,m1,mg,_⟩ := fin_str (n := n) (m := n) (h := delO h q) (s := S) (Nat.le_refl _) (fun k hk => good_del (hg k hk))
  refine ⟨n',h',?_,m1,mg⟩
  rw [f13_eq]; unfold c13; rw [callFn_eq (by rfl),LX_own]
  show finish n _ (bldO tPr (getO h r) fun _ b => strS (.o .h) (argsT [.ptr r 0 0] [po 0]) n h b) = _
  rw [g1]
  show finish n _ (strO (.o .h) (argsT [.ptr r 0 0] [po 0]) n h q S.length (getO h q)) = _
  rw [g2]
  show finish n _ (Bool.rec (motive := fun _ => Re) .bad (strB (.o .h) (argsT [.ptr r 0 0] [po 0]) n (delO h q) (bytesL (strL S))) (Bool.and (Nat.beq S.length (lenL (strL S))) (Nat.blt 0 S.length))) = _
  have hpos : 0 < S.length := by cases S with | nil => exact absurd rfl hne | cons a t => simp
  rw [lenL_eq,strL_len,show Nat.beq S.length S.length = true from Nat.beq_refl _,blt_iff,decide_eq_true hpos,hb]
  exact e
end Go.Proofs.YtpbpmpabndgeeaaDoor
