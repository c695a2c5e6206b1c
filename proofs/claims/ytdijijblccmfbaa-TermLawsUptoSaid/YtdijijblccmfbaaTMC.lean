/- The program's Copy, Lift and Subst of terms, as they lie in package raw. No condition but sizes. -/
import Derived.Test.YtdijijblccmfbaaTMB
set_option linter.unusedSimpArgs false
set_option linter.unusedVariables false
namespace Go.Proofs.Ytdijijblccmfbaa
open Go

theorem pureC_new {m n q k : Nat} {h : Hps} {x : Int} (hq : n + 1 ≤ q) : pureC [] n h (.fn k [] []) [] (.ok (.ptr q 0 0) m [(q,.row 1 [.int .i64 x])]) = .ok (.ptr q 0 0) m ((q,.row 1 [.int .i64 x]) :: h) := by
  have e : Nat.ble (n + 1) q = true := by rw [ble_iff,decide_eq_true hq]
  show ifR (Bool.and true (Bool.and true (Bool.and true (Bool.and true (Bool.and (Bool.or (Nat.ble (n + 1) q) false) (Bool.and (Bool.or (Nat.ble (n + 1) q) false) true)))))) _ = _
  rw [e]; rfl
theorem pNone (n : Nat) : callFn (LX (cF Try.prog)) n [] [] (cF Try.prog 92) = .ok (.ptr (n + 1) 0 0) (n + 4) [(n + 1,.row 1 [.int .i64 1099511627776])] := by
  rw [f92_eq]; unfold c92; rw [callFn_eq (by rfl)]
  simp (disch:=first|assumption|omega|(simp (disch:=first|assumption|omega) only [sB,Nat.reduceAdd,Nat.reduceLT,Nat.reduceLeDiff,Nat.reduceEqDiff,Nat.reduceMul,↓reduceIte];done)|fail) only [sA,↓reduceIte,Nat.reduceLT,Nat.reduceEqDiff,Nat.reduceAdd,Nat.reduceLeDiff]
  have e : hasP n 20 (.ptr (n + 1) 0 0) = true := by
    show Nat.ble n (n + 1) = true
    rw [ble_iff,decide_eq_true (by omega)]
  unfold finishD
  rw [e]
  rfl
theorem keys_new {m q : Nat} {o : Ob} {h : Hps} (hq : m ≤ q) : keysFrom m ((q,o) :: h) = q :: keysFrom m h := by
  show Bool.rec (motive := fun _ => List Nat) (keysFrom m h) (q :: keysFrom m h) (Nat.ble m q) = _
  rw [ble_iff,decide_eq_true hq]
theorem pCopy (n : Nat) (h : Hps) (hg : Gd n h) (t : Tm) (ht : slimT t.abs = true) (hs : sizeT t.abs ≤ 100000) (hh : highT t.abs ≤ 100000) : callFn (LX (cF Try.prog)) n h [(D.agg [.int .i64 (t).form,.int .i64 (t).n,.bool (t).hid,.str (t).name,slD 2 encL (t).levels,slD 6 encT (t).kids])] (cF Try.prog 59) = .ok (encT (runM gC t 0 1099511627776).1) n h := by
  have hgn := hg n (Nat.le_refl _)
  have hG : ∀ m,n ≤ m → Gd m h := fun m hm => hg.mono hm
  have H : Hp n h (n + 1099511627781) ((n + 1099511627780,.row 1 [.int .i64 1099511627776]) :: (n + 1,(Ob.row 6 [.agg [.int .i64 0,.int .i64 0,.bool false,.str [],.nils,.nils]])) :: (n,(Ob.row 6 [.agg [.int .i64 (t).form,.int .i64 (t).n,.bool (t).hid,.str (t).name,slD 2 encL (t).levels,slD 6 encT (t).kids]])) :: h) := (((Hp.start hg).box (r := n) (m := n + 1) (Nat.le_refl _) (by omega) (flatTA t)).box (r := n + 1) (m := n + 2) (k := 6) (d := (D.agg [.int .i64 0,.int .i64 0,.bool false,.str [],.nils,.nils])) (by omega) (by omega) rfl).box (r := n + 1099511627780) (by omega) (by omega) rfl
  obtain ⟨h2,e2,U2⟩ := mapRun (r := n + 1099511627780) steadyC (by omega) (c := .fn 93 [] []) (.inl rfl) rfl doesC t ht 0 1099511627776 (Int.le_refl _) (by omega) (by omega) (by omega) (n + 2199023255555) _ (fun k hk => H.good k (by omega)) (by omega) getO_hd
  have w1 : getO h2 (n + 1) = (Ob.row 6 [.agg [.int .i64 0,.int .i64 0,.bool false,.str [],.nils,.nils]]) := by rw [U2.get (by omega),getO_tl (by omega),getO_hd]
  have w2 : ∀ X,getO (setO h2 (n + 1) X) (n + 1) = X := fun X => getO_setO_same (by rw [w1]; simp)
  have H2 := Cnt.own H U2 (by omega) (by omega)
  generalize runM gC t 0 1099511627776 = X at e2 ⊢
  rw [encT_eq] at e2 ⊢
  rw [f59_eq]; unfold c59; rw [callFn_eq (by rfl)]
  simp (disch:=first|assumption|omega|(simp (disch:=first|assumption|omega) only [sB,Nat.reduceAdd,Nat.reduceLT,Nat.reduceLeDiff,Nat.reduceEqDiff,Nat.reduceMul,↓reduceIte,gd_tm,gd_zt,hG];done)|fail) only [sA,↓reduceIte,Nat.reduceLT,Nat.reduceEqDiff,Nat.reduceAdd,Nat.reduceLeDiff,pNone,pureC_new,e2,w1,w2,keys_new,keys_gd,gd_tm,gd_zt,hG]
  exact finish_flat (flatTA X.1) ((H2.set (r := n + 1) (by omega) (fun k hk => lowO_one (low_flat (flatTA _)))).mono (by omega))
theorem pLift (n : Nat) (h : Hps) (hg : Gd n h) (t : Tm) (a b : Int) (ha : 0 ≤ a ∧ a ≤ 10000000) (hb : 0 ≤ b ∧ b ≤ 10000000) (hab : 0 < a + b) (ht : slimT t.abs = true) (hs : sizeT t.abs ≤ 100000) (hh : highT t.abs ≤ 100000) : callFn (LX (cF Try.prog)) n h [(D.agg [.int .i64 (t).form,.int .i64 (t).n,.bool (t).hid,.str (t).name,slD 2 encL (t).levels,slD 6 encT (t).kids]),.int .i64 a,.int .i64 b] (cF Try.prog 60) = .ok (encT (runM (gL a b) t 0 1099511627776).1) n h := by
  have hgn := hg n (Nat.le_refl _)
  have hG : ∀ m,n ≤ m → Gd m h := fun m hm => hg.mono hm
  have H : Hp n h (n + 1099511627787) ((n + 1099511627786,.row 1 [.int .i64 1099511627776]) :: (n + 1,(Ob.row 6 [.agg [.int .i64 0,.int .i64 0,.bool false,.str [],.nils,.nils]])) :: (n,(Ob.row 6 [.agg [.int .i64 (t).form,.int .i64 (t).n,.bool (t).hid,.str (t).name,slD 2 encL (t).levels,slD 6 encT (t).kids]])) :: h) := (((Hp.start hg).box (r := n) (m := n + 1) (Nat.le_refl _) (by omega) (flatTA t)).box (r := n + 1) (m := n + 2) (k := 6) (d := (D.agg [.int .i64 0,.int .i64 0,.bool false,.str [],.nils,.nils])) (by omega) (by omega) rfl).box (r := n + 1099511627786) (by omega) (by omega) rfl
  obtain ⟨h2,e2,U2⟩ := mapRun (r := n + 1099511627786) (steadyL a b) (by omega) (c := .fn 94 [.agg [.int .i64 a,.int .i64 b]] []) (.inl rfl) rfl (doesL ha hb) t ht 0 1099511627776 (Int.le_refl _) (by omega) (by omega) (by omega) (n + 6597069766665) _ (fun k hk => H.good k (by omega)) (by omega) getO_hd
  have w1 : getO h2 (n + 1) = (Ob.row 6 [.agg [.int .i64 0,.int .i64 0,.bool false,.str [],.nils,.nils]]) := by rw [U2.get (by omega),getO_tl (by omega),getO_hd]
  have w2 : ∀ X,getO (setO h2 (n + 1) X) (n + 1) = X := fun X => getO_setO_same (by rw [w1]; simp)
  have H2 := Cnt.own H U2 (by omega) (by omega)
  generalize runM (gL a b) t 0 1099511627776 = X at e2 ⊢
  rw [encT_eq] at e2 ⊢
  by_cases hb0 : b = 0
  · have ha0 : ¬ a = 0 := by omega
    subst hb0
    rw [f60_eq]; unfold c60; rw [callFn_eq (by rfl)]
    simp (disch:=first|assumption|omega|(simp (disch:=first|assumption|omega) only [sB,Nat.reduceAdd,Nat.reduceLT,Nat.reduceLeDiff,Nat.reduceEqDiff,Nat.reduceMul,↓reduceIte,gd_tm,gd_zt,hG];done)|fail) only [sA,↓reduceIte,Nat.reduceLT,Nat.reduceEqDiff,Nat.reduceAdd,Nat.reduceLeDiff,ha0,pNone,pureC_new,e2,w1,w2,keys_new,keys_gd,gd_tm,gd_zt,hG]
    exact finish_flat (flatTA X.1) ((H2.set (r := n + 1) (by omega) (fun k hk => lowO_one (low_flat (flatTA _)))).mono (by omega))
  · rw [f60_eq]; unfold c60; rw [callFn_eq (by rfl)]
    simp (disch:=first|assumption|omega|(simp (disch:=first|assumption|omega) only [sB,Nat.reduceAdd,Nat.reduceLT,Nat.reduceLeDiff,Nat.reduceEqDiff,Nat.reduceMul,↓reduceIte,gd_tm,gd_zt,hG];done)|fail) only [sA,↓reduceIte,Nat.reduceLT,Nat.reduceEqDiff,Nat.reduceAdd,Nat.reduceLeDiff,hb0,pNone,pureC_new,e2,w1,w2,keys_new,keys_gd,gd_tm,gd_zt,hG]
    exact finish_flat (flatTA X.1) ((H2.set (r := n + 1) (by omega) (fun k hk => lowO_one (low_flat (flatTA _)))).mono (by omega))
theorem pSubst (n : Nat) (h : Hps) (hg : Gd n h) (t s : Tm) (p L : Int) {r : Nat} (hr : r < n) (hb : getO h r = .row 1 [.int .i64 L]) (hL : L ≤ 10000000000000) (hp : 0 ≤ p ∧ p ≤ 10000000000000) (ht : slimT t.abs = true) (hs : sizeT t.abs ≤ 20000) (hh : highT t.abs ≤ 100000) (ht2 : slimT s.abs = true) (hs2 : sizeT s.abs ≤ 20000) (hh2 : highT s.abs ≤ 100000) (hL1 : 0 ≤ L) : ∃ h',callFn (LX (cF Try.prog)) n h [(D.agg [.int .i64 (t).form,.int .i64 (t).n,.bool (t).hid,.str (t).name,slD 2 encL (t).levels,slD 6 encT (t).kids]),.int .i64 p,(D.agg [.int .i64 (s).form,.int .i64 (s).n,.bool (s).hid,.str (s).name,slD 2 encL (s).levels,slD 6 encT (s).kids]),.ptr r 0 0] (cF Try.prog 81) = .ok (encT (runM (gS p s) t 0 L).1) n h' ∧ Cnt r (runM (gS p s) t 0 L).2 h h' := by
  have hgn := hg n (Nat.le_refl _)
  have H : Hp n h (n + 3) ((n + 2,(Ob.row 6 [.agg [.int .i64 0,.int .i64 0,.bool false,.str [],.nils,.nils]])) :: (n + 1,(Ob.row 6 [.agg [.int .i64 (s).form,.int .i64 (s).n,.bool (s).hid,.str (s).name,slD 2 encL (s).levels,slD 6 encT (s).kids]])) :: (n,(Ob.row 6 [.agg [.int .i64 (t).form,.int .i64 (t).n,.bool (t).hid,.str (t).name,slD 2 encL (t).levels,slD 6 encT (t).kids]])) :: h) := (((Hp.start hg).box (r := n) (m := n + 1) (Nat.le_refl _) (by omega) (flatTA t)).box (r := n + 1) (m := n + 2) (by omega) (by omega) (flatTA s)).box (r := n + 2) (m := n + 3) (k := 6) (d := (D.agg [.int .i64 0,.int .i64 0,.bool false,.str [],.nils,.nils])) (by omega) (by omega) rfl
  have hci : inD (fun x => memN x [r]) 20 (.fn 111 [.agg [.int .i64 p,.int .i64 s.form,.int .i64 s.n,.bool s.hid,.str s.name,slD 2 encL s.levels,slD 6 encT s.kids,.ptr r 0 0]] []) = true := by
    simp [in_fn,in_agg,in_int,in_bool,in_str,in_slD,in_ptr,memN_self]
  have hcr : rd 20 (.fn 111 [.agg [.int .i64 p,.int .i64 s.form,.int .i64 s.n,.bool s.hid,.str s.name,slD 2 encL s.levels,slD 6 encT s.kids,.ptr r 0 0]] []) = [r] := by
    have e : ∀ {α : Type} (k : Nat) (enc : α → D) (s : Sl α),rd (17 + 1) (slD k enc s) = [] := fun k enc s => by rcases slD_isSl k enc s with ⟨h1,_⟩ | ⟨_,_,h1⟩ <;> rw [h1] <;> rfl
    show appN (appN (appN [] (appN [] (appN [] (appN [] (appN [] (appN (rd (17 + 1) (slD 2 encL s.levels)) (appN (rd (17 + 1) (slD 6 encT s.kids)) (appN [r] [])))))))) []) [] = [r]
    rw [e,e]; rfl
  obtain ⟨h2,e2,U2⟩ := mapRun (r := r) (steadyS p s) (by omega) (c := .fn 111 [.agg [.int .i64 p,.int .i64 s.form,.int .i64 s.n,.bool s.hid,.str s.name,slD 2 encL s.levels,slD 6 encT s.kids,.ptr r 0 0]] []) (.inr hcr) hci (doesS hp ht2 (by omega) (by omega)) t ht 0 L (Int.le_refl _) (by omega) (by
    have a1 := Int.mul_le_mul_of_nonneg_right (show (sizeT t.abs : Int) ≤ 20000 by omega) (show (0 : Int) ≤ (sizeT s.abs : Int) + 1 by omega)
    omega) hL (n + 11) _ (fun k hk => H.good k (by omega)) (by omega) (by rw [getO_tl (by omega),getO_tl (by omega),getO_tl (by omega)]; exact hb)
  have w1 : getO h2 (n + 2) = (Ob.row 6 [.agg [.int .i64 0,.int .i64 0,.bool false,.str [],.nils,.nils]]) := by rw [U2.get (by omega),getO_hd]
  have w2 : ∀ X,getO (setO h2 (n + 2) X) (n + 2) = X := fun X => getO_setO_same (by rw [w1]; simp)
  obtain ⟨hb1,H2,V2⟩ := Cnt.hp (H.mono (show n + 3 ≤ n + 11 by omega)) U2 hr
  refine ⟨hb1,?_,V2⟩
  generalize runM (gS p s) t 0 L = X at e2 ⊢
  rw [encT_eq] at e2 ⊢
  rw [f81_eq]; unfold c81; rw [callFn_eq (by rfl)]
  simp (disch:=first|assumption|omega|(simp (disch:=first|assumption|omega) only [sB,Nat.reduceAdd,Nat.reduceLT,Nat.reduceLeDiff,Nat.reduceEqDiff,Nat.reduceMul,↓reduceIte];done)|fail) only [sA,↓reduceIte,Nat.reduceLT,Nat.reduceEqDiff,Nat.reduceAdd,Nat.reduceLeDiff,e2,w1,w2]
  exact finish_flat (flatTA X.1) ((H2.set (r := n + 2) (by omega) (fun k hk => lowO_one (low_flat (flatTA _)))).mono (by omega))
end Go.Proofs.Ytdijijblccmfbaa
