/- The text of a row of lambdas. -/
import Derived.Test.YtpbpmpabndgeeaaDoorPS
set_option linter.unusedSimpArgs false
set_option linter.unusedVariables false
namespace Go.Proofs.YtpbpmpabndgeeaaDoor
open Go

theorem opC_tbox {call : CallF} {e : Tr} {n t k : Nat} {h : Hps} {x : Opd} : opC call e n h (.tbox t k x) = tboxD n h t k (ev e x) := eqOf rfl
theorem tb_ok : ∀ m g,tboxD m g 45 2 (.agg [.nilp,.nils]) = .ok (.ptr m 0 0) m ((m,.tob tPr (.agg [.nilp,.nils])) :: g) := fun m g => rfl
set_option maxHeartbeats 4000000 in
theorem pTerm {T : Tm} {c C : Nat} {S : List Nat} (hs : saneT T.abs = true) (hc : checkT T.abs = 0) (hcl : c < 800000)
    (hw : ∀ {n : Nat} {h : Hps},Gd n h → ∀ {r q : Nat} {L : List D},Wst r L q h → L.length + c < 800000 → WOk n h r q L c (callFn (LX (cF Tryd.prog)) n h [.ptr r 0 0,(D.agg [.int .i64 (T).form,.int .i64 (T).n,.bool (T).hid,.str (T).name,slD 2 encL (T).levels,slD 6 encT (T).kids])] (cF Tryd.prog 15)))
    (ht : TOk T 0 S C) (hne : S ≠ []) (hS : ∀ c,c ∈ S → c < 256) (hl : S.length < 900000)
    {n : Nat} {h : Hps} (hg : Gd n h) : ∃ n' h',callFn (LX (cF Tryd.prog)) n h [(D.agg [.int .i64 (T).form,.int .i64 (T).n,.bool (T).hid,.str (T).name,slD 2 encL (T).levels,slD 6 encT (T).kids])] (cF Tryd.prog 9) = .ok (.str S) n' h' ∧ n ≤ n' := by
  have hgn := hg n (Nat.le_refl _)
  have H0 : Hp n h (n + 1) ((n,(Ob.row 6 [.agg [.int .i64 (T).form,.int .i64 (T).n,.bool (T).hid,.str (T).name,slD 2 encL (T).levels,slD 6 encT (T).kids]])) :: h) := (Hp.start hg).box (r := n) (m := n + 1) (Nat.le_refl _) (by omega) (flatTA T)
  obtain ⟨a,n1,h1',e1,nj,m1,g1,k1⟩ := pBytes hs hc hcl hw (n := n + 4) (h := (n,(Ob.row 6 [.agg [.int .i64 (T).form,.int .i64 (T).n,.bool (T).hid,.str (T).name,slD 2 encL (T).levels,slD 6 encT (T).kids]])) :: h) (fun k hk => H0.good k (by omega))
  have o1 := okD_nj nj
  have k1' : getO h1' n = (Ob.row 6 [.agg [.int .i64 (T).form,.int .i64 (T).n,.bool (T).hid,.str (T).name,slD 2 encL (T).levels,slD 6 encT (T).kids]]) := by rw [k1 n (by omega),getO_hd]
  obtain ⟨n2,h2',q2',e2,s2,P2,i2,j2,b2⟩ := ht (n := n1 + 14) (h := (n1 + 9,.tob tPr (.agg [.nilp,.nils])) :: h1') (fun k hk => good_cons.2 ⟨by omega,rfl,g1 k (by omega)⟩) (.inl ⟨rfl,rfl,.nilp,getO_hd,.inl rfl⟩) (by simp; omega)
  replace e2 : callFn (LX (cF Tryd.prog)) (n1 + 14) ((n1 + 9,.tob tPr (.agg [.nilp,.nils])) :: h1') [.ptr (n1 + 9) 0 0,(D.agg [.int .i64 (T).form,.int .i64 (T).n,.bool (T).hid,.str (T).name,slD 2 encL (T).levels,slD 6 encT (T).kids]),.int .i64 0] (cF Tryd.prog 12) = .ok (.tup []) n2 h2' := e2
  have := s2.le
  obtain ⟨n3,h3',e3,m3,g3⟩ := pStr (n := n2 + 5) (fun k hk => s2.good k (by omega)) P2 (by simpa using hne) (by simpa using hS)
  rw [List.nil_append] at e3
  rw [f9_eq]; unfold c9; rw [callFn_eq (by rfl)]
  simp (disch:=first|assumption|omega|(simp (disch:=first|assumption|omega) only [sB,Nat.reduceAdd,Nat.reduceLT,Nat.reduceLeDiff,Nat.reduceEqDiff,Nat.reduceMul,↓reduceIte,getO_tl];done)|fail) only [sA,↓reduceIte,Nat.reduceLT,Nat.reduceEqDiff,Nat.reduceAdd,Nat.reduceLeDiff,e1,o1,k1',opC_tbox,tb_ok,e2,e3,getO_tl]
  obtain ⟨n4,h4,e4,m4,_⟩ := fin_str (n := n) (m := n3 + 2) (h := h3') (s := S) (by omega) (fun k hk => g3 k (by omega))
  exact ⟨n4,h4,e4,m4⟩
end Go.Proofs.YtpbpmpabndgeeaaDoor
