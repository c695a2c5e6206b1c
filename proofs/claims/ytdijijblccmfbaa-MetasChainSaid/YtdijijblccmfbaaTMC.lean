/- The program's Copy, Lift and Subst of terms, as they lie in package raw. No condition but sizes. -/
import Derived.Test.YtdijijblccmfbaaTMB
set_option linter.unusedSimpArgs false
set_option linter.unusedVariables false
namespace Go.Proofs.Ytdijijblccmfbaa
open Go

theorem pureC_new {m n q k : Nat} {h : Hps} {x : Int} (hq : n + 1 ≤ q) : pureC [] n h (.fn k [] []) [] (.ok (.ptr q 0 0) m [(q,.row 1 [.int .i64 x])]) = .ok (.ptr q 0 0) m ((q,.row 1 [.int .i64 x]) :: h) := by
  have e : Nat.ble (n + 1) q = true := by rw [ble_iff,decide_eq_true hq]
  show ifR (Bool.and true (Bool.and true (Bool.and true (Bool.and true (Bool.and (Bool.or (Nat.ble (n + 1) q) false) (Bool.and (Bool.or (Nat.ble (n + 1) q) false) true)))))) _ = _
  rw [e]; rfl
theorem pNone (n : Nat) : callFn (LX (cF Try.prog)) n [] [] (cF Try.prog 92) = .ok (.ptr (n + 1) 0 0) (n + 4) [(n + 1,.row 1 [.int .i64 1099511627776])] := by
  rw [f92_eq]; unfold c92; rw [callFn_eq (by rfl)]
  simp (disch:=first|assumption|omega|(simp (disch:=first|assumption|omega) only [sB,Nat.reduceAdd,Nat.reduceLT,Nat.reduceLeDiff,Nat.reduceEqDiff,Nat.reduceMul,↓reduceIte];done)|fail) only [sA,↓reduceIte,Nat.reduceLT,Nat.reduceEqDiff,Nat.reduceAdd,Nat.reduceLeDiff]
  have e : hasP n 20 (.ptr (n + 1) 0 0) = true := by
    show Nat.ble n (n + 1) = true
    rw [ble_iff,decide_eq_true (by omega)]
  unfold finishD
  rw [e]
  rfl
theorem keys_new {m q : Nat} {o : Ob} {h : Hps} (hq : m ≤ q) : keysFrom m ((q,o) :: h) = q :: keysFrom m h := by
  show Bool.rec (motive := fun _ => List Nat) (keysFrom m h) (q :: keysFrom m h) (Nat.ble m q) = _
  rw [ble_iff,decide_eq_true hq]
theorem pCopy (n : Nat) (h : Hps) (hg : Gd n h) (t : Tm) (ht : slimT t.abs = true) (hs : sizeT t.abs ≤ 100000) (hh : highT t.abs ≤ 100000) : callFn (LX (cF Try.prog)) n h [(D.agg [.int .i64 (t).form,.int .i64 (t).n,.bool (t).hid,.str (t).name,slD 2 encL (t).levels,slD 6 encT (t).kids])] (cF Try.prog 59) = .ok (encT (runM gC t 0 1099511627776).1) n h := by
  have hgn := hg n (Nat.le_refl _)
  have hG : ∀ m,n ≤ m → Gd m h := fun m hm => hg.mono hm
  have H : Hp n h (n + 1099511627781) ((n + 1099511627780,.row 1 [.int .i64 1099511627776]) :: (n + 1,(Ob.row 6 [.agg [.int .i64 0,.int .i64 0,.bool false,.str [],.nils,.nils]])) :: (n,(Ob.row 6 [.agg [.int .i64 (t).form,.int .i64 (t).n,.bool (t).hid,.str (t).name,slD 2 encL (t).levels,slD 6 encT (t).kids]])) :: h) := (((Hp.start hg).box (r := n) (m := n + 1) (Nat.le_refl _) (by omega) (flatTA t)).box (r := n + 1) (m := n + 2) (k := 6) (d := (D.agg [.int .i64 0,.int .i64 0,.bool false,.str [],.nils,.nils])) (by omega) (by omega) rfl).box (r := n + 1099511627780) (by omega) (by omega) rfl
  obtain ⟨h2,e2,U2⟩ := mapRun (r := n + 1099511627780) steadyC (by omega) (c := .fn 93 [] []) (.inl rfl) rfl doesC t ht 0 1099511627776 (Int.le_refl _) (by omega) (by omega) (by omega) (n + 2199023255555) _ (fun k hk => H.good k (by omega)) (by omega) getO_hd
  have w1 : getO h2 (n + 1) = (Ob.row 6 [.agg [.int .i64 0,.int .i64 0,.bool false,.str [],.nils,.nils]]) := by rw [U2.get (by omega),getO_tl (by omega),getO_hd]
  have w2 : ∀ X,getO (setO h2 (n + 1) X) (n + 1) = X := fun X => getO_setO_same (by rw [w1]; simp)
  have H2 := Cnt.own H U2 (by omega) (by omega)
  generalize runM gC t 0 1099511627776 = X at e2 ⊢
  rw [encT_eq] at e2 ⊢
  rw [f59_eq]; unfold c59; rw [callFn_eq (by rfl)]
  simp (disch:=first|assumption|omega|(simp (disch:=first|assumption|omega) only [sB,Nat.reduceAdd,Nat.reduceLT,Nat.reduceLeDiff,Nat.reduceEqDiff,Nat.reduceMul,↓reduceIte,gd_tm,gd_zt,hG];done)|fail) only [sA,↓reduceIte,Nat.reduceLT,Nat.reduceEqDiff,Nat.reduceAdd,Nat.reduceLeDiff,pNone,pureC_new,e2,w1,w2,keys_new,keys_gd,gd_tm,gd_zt,hG]
  exact finish_flat (flatTA X.1) ((H2.set (r := n + 1) (by omega) (fun k hk => lowO_one (low_flat (flatTA _)))).mono (by omega))
end Go.Proofs.Ytdijijblccmfbaa
