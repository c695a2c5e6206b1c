/- LevelNorms: the canonical form of every level, or that it has none: the program's answer is the reference's, for all levels; what is handed in stays, two answers in hand are two. No condition. -/
import Derived.Test.YtjagmfgjlfkmgaaKJ
import Derived.Test.YtjagmfgjlfkmgaaKTL
import Derived.Test.YtjagmfgjlfkmgaaKL1
set_option linter.unusedSimpArgs false
set_option linter.unusedVariables false
namespace Go.Proofs.Ytjagmfgjlfkmgaa
open Go Go.ChangeShapes Go.WideShapes Go.ChangeAt Go.RowKit

theorem Fz.spare {α : Type} {enc : α → D} {k n0 r : Nat} {h : Hps} {l : List α} {x : α} (he : ElemOk k enc) (hk : 0 < k) (hr : n0 ≤ r) (hg : getO h r = .row k ((l ++ [x]).map enc)) : Fz 3 n0 h (.ms k r 0 l.length false) (.sl k (l.map enc) [enc x] false) := by
  have key : ∀ f,3 ≤ f → ∃ g,f = g + 3 := fun f hf => ⟨f - 3,by omega⟩
  refine ⟨fun f hf => ?_,fun f hf => ?_,fun f hf => ?_,fun f hf => ?_⟩ <;> obtain ⟨g,rfl⟩ := key f hf
  · show Bool.rec (motive := fun _ => D) (frzO (Ytjagmfgjlfkmgaa.frz h n0 (g + 2)) k 0 l.length false (getO h r)) (.ms k r 0 l.length false) (Nat.blt r n0) = _
    rw [blt_iff,decide_eq_false (by omega),hg]
    show Bool.rec (motive := fun _ => D) .junk (frzS k (mapL (Ytjagmfgjlfkmgaa.frz h n0 (g + 2)) (takeL l.length (dropL 0 ((l ++ [x]).map enc)))) (dropL (0 + l.length) ((l ++ [x]).map enc)) false) (Bool.and (Nat.beq k k) (Nat.ble (0 + l.length) (lenL ((l ++ [x]).map enc)))) = _
    rw [Nat.beq_refl,lenL_eq,List.length_map,Nat.zero_add,ble_iff,decide_eq_true (by rw [List.length_append]; omega),takeL_eq,dropL_eq,dropL_eq,List.drop_zero,List.map_append,mapL_eq]
    rw [show (l.map enc ++ [x].map enc).take l.length = l.map enc by rw [List.take_append_of_le_length (by rw [List.length_map]; omega),List.take_of_length_le (by rw [List.length_map]; omega)],
      show (l.map enc ++ [x].map enc).drop l.length = [enc x] by rw [List.drop_append_of_le_length (by rw [List.length_map]; omega),List.drop_of_length_le (by rw [List.length_map]; omega)]; rfl]
    have h1 : (l.map enc).map (Ytjagmfgjlfkmgaa.frz h n0 (g + 2)) = l.map enc := by
      rw [List.map_map]
      exact List.map_congr_left (fun x _ => (plain2 g (he.flat x)).frz h n0)
    rw [h1]
    show frzS k (l.map enc) [enc x] false = _
    unfold frzS
    have h2 : allL (okE k) (l.map enc) = true := by
      rw [allL_eq,List.all_eq_true]
      intro d hd
      obtain ⟨x,_,rfl⟩ := List.mem_map.1 hd
      exact he.ok x
    have h3 : spareK k [enc x] false = [enc x] := by
      show Bool.rec (motive := fun _ => List D) [] [enc x] (Bool.and (Nat.blt 0 k) (allL (okE k) [enc x])) = _
      rw [blt_iff,decide_eq_true hk,allL_eq,List.all_cons,List.all_nil,he.ok x]; rfl
    rw [h2,h3]
  · rfl
  · rfl
  · rfl
noncomputable def slm1 (n : Nat) (h : Hps) (k k' r o l : Nat) (f : Bool) (x : D) : Rd := ifR (Nat.beq k k') (natR (fun u => slM n h k r o l f 0 u) x)
theorem slice_ms {n k k' r o l : Nat} {h : Hps} {env : Tr} {f : Bool} {u : Opd} : sliceD n h k env (.ms k' r o l f) none (some u) none = slm1 n h k k' r o l f (ev env u) := eqOf rfl
theorem slm1_ok {n k r l b : Nat} {h : Hps} {q : IntKind} (hb : b ≤ l) : slm1 n h k k r 0 l false (.int q (b : Nat)) = .ok (.ms k r 0 b false) n h := by
  show ifR (Nat.beq k k) (ifR (Bool.and true (Bool.and (Nat.ble b l) true)) (.ok (.ms k r (0 + 0) (b - 0) false) n h)) = _
  rw [Nat.beq_refl,ble_iff,decide_eq_true hb,Nat.sub_zero]; rfl

theorem slm1_zero {n k r l : Nat} {h : Hps} {q : IntKind} : slm1 n h k k r 0 l false (.int q 0) = .ok (.ms k r 0 0 false) n h := slm1_ok (b := 0) (Nat.zero_le _)
theorem delO_low {n r : Nat} {h : Hps} (hg : GoodAt n h) (hr : n ≤ r) : delO h r = h := by
  induction h with
  | nil => rfl
  | cons p t ih =>
    obtain ⟨q,o⟩ := p
    have h1 := good_cons.1 hg
    rw [delO_tl (by have := h1.1; omega),ih h1.2.2]
theorem lent_end {n M r : Nat} {h : Hps} (hg : ∀ k,n ≤ k → GoodAt k h) (N : Int) (s : Sl LV) (hr : n + 2 ≤ r) (hM : r < M) :
    finishD n M ((r,.row 2 ((s.el ++ [(-71,0)]).map encV)) :: (n + 1,.row 2 [.agg [.int .i64 N,.ms 2 r 0 s.el.length false]]) :: (n,.row 2 [.agg [.int .i64 N,.ms 2 r 0 s.el.length false]]) :: h) (.agg [.int .i64 N,.ms 2 r 0 s.el.length false]) = .ok (.agg [.int .i64 N,.sl 2 (s.el.map encV) [encV (-71,0)] false]) n h := by
  have H0 : Hp n h (n + 2) ((n + 1,(Ob.row 2 [.agg [.int .i64 0,.nils]])) :: (n,(Ob.row 2 [.agg [.int .i64 0,.nils]])) :: h) := ((Hp.start hg).box (r := n) (m := n + 1) (Nat.le_refl _) (by omega) rfl).box (m := n + 2) (r := n + 1) (by omega) (by omega) rfl
  have H1 : Hp n h M ((r,.row 2 ((s.el ++ [(-71,0)]).map encV)) :: (n + 1,(Ob.row 2 [.agg [.int .i64 0,.nils]])) :: (n,(Ob.row 2 [.agg [.int .i64 0,.nils]])) :: h) := H0.cons hr hM (fun k _ => lowO_map (fun x => lowV k x))
  have lowX : ∀ k,M ≤ k → lowO k (.row 2 [.agg [.int .i64 N,.ms 2 r 0 s.el.length false]]) := fun k hk => lowO_one (low_agg (fun x hx => by
    rcases List.mem_cons.1 hx with rfl | hx
    · rfl
    · rw [List.mem_singleton.1 hx]; exact ble_f (by omega)))
  have HH := (H1.set (r := n) (by omega) lowX).set (r := n + 1) (by omega) lowX
  rw [setO_tl (by omega),setO_tl (by omega),setO_tl (by omega),setO_hd,setO_hd] at HH
  have F := finishD_fz (n := M) (Fz.agg (.cons ((Fz.of1 (d := .int .i64 N) rfl).mono (show 1 ≤ 3 by omega)) (.cons (Fz.spare (n0 := n) (r := r) (l := s.el) (x := (-71,0)) elemV (by decide) (by omega) getO_hd) .nil))) (by omega) HH.leak
  rw [F,HH.drop]
def lentV (s : Sl LV) : Sl LV := ⟨true,false,s.el,[(-71,0)]⟩
theorem lentV_sl (s : Sl LV) : slD 2 encV (lentV s) = .sl 2 (s.el.map encV) [encV (-71,0)] false := by
  unfold slD lentV
  show (bif (true && s.el.isEmpty && false) then D.nils else _) = _
  rw [Bool.and_false]; rfl
set_option maxHeartbeats 4000000 in
theorem kLent (N : Int) (s : Sl LV) (hs : s.el.length ≤ 200) (n : Nat) (h : Hps) (hg : ∀ k,n ≤ k → GoodAt k h) : callFn (LX (cFk kN Try.prog)) n h [(D.agg [.int .i64 (N),slD 2 encV (s)])] (cFk kN Try.prog 35) = .ok (D.agg [.int .i64 (N),slD 2 encV (lentV s)]) n h := by
  have hgn := hg n (Nat.le_refl _)
  rw [lentV_sl]
  cases hl : s.el with
  | nil =>
    have hv : s.el.map encV = [] := by rw [hl]; rfl
    have hn : s.el.length = 0 := by rw [hl]; rfl
    have a0 : ∀ m K,appD m K 2 16 .nils (.ok 2 []) = .ok .nils m K := fun m K => rfl
    have a1 : ∀ m K x,appD m K 2 16 .nils (.ok 2 [x]) = .ok (.ms 2 m 0 1 false) m ((m,.row 2 [x]) :: K) := fun m K x => appD_nils (by decide)
    rw [f35_eq]; unfold c35; rw [callFn_eq (by rfl)]
    simp (disch:=first|assumption|omega|(simp (disch:=first|assumption|omega) only [sB,Nat.reduceAdd,Nat.reduceLT,Nat.reduceLeDiff,Nat.reduceEqDiff,Nat.reduceMul,↓reduceIte];done)|fail) only [sA,↓reduceIte,Nat.reduceLT,Nat.reduceEqDiff,Nat.reduceAdd,Nat.reduceLeDiff,hv,hn,a0,a1,slice_ms,slm1_zero]
    have e := lent_end (r := n + 5497558138882) (M := n + 13194139533316) hg N s (by omega) (by omega)
    rw [hn,hl] at e
    exact e
  | cons x xt =>
    have hv : s.el.map encV = encV x :: xt.map encV := by rw [hl]; rfl
    have hn : s.el.length = xt.length + 1 := by rw [hl]; rfl
    have sz1 : ((xt.map encV).length + 1) * 16 ≤ 140737488355328 := by rw [List.length_map]; omega
    have sz2 : ((encV x :: xt.map encV).length + 1) * 16 ≤ 140737488355328 := by rw [List.length_cons,List.length_map]; omega
    have lm : (xt.map encV).length = xt.length := List.length_map _
    rw [f35_eq]; unfold c35; rw [callFn_eq (by rfl)]
    simp (disch:=first|assumption|omega|(simp (disch:=first|assumption|omega) only [sB,Nat.reduceAdd,Nat.reduceLT,Nat.reduceLeDiff,Nat.reduceEqDiff,Nat.reduceMul,↓reduceIte];done)|fail) only [sA,↓reduceIte,Nat.reduceLT,Nat.reduceEqDiff,Nat.reduceAdd,Nat.reduceLeDiff,hv,hn,appD_nils,slice_ms,slm1_ok,delO_low hgn (show n ≤ n + 2199023255554 by omega)]
    have e := lent_end (r := n + 5497558138882) (M := n + 13194139533316) hg N s (by omega) (by omega)
    rw [hn,hl] at e
    simp only [List.map_append,List.map_cons,List.cons_append] at e
    exact e
theorem Bld.keep {α : Type} {enc : α → D} {k n1 m : Nat} {l : List α} {d : D} {h h' : Hps} (hB : Bld k enc n1 l h d) (hg : GoodAt m h) (hk : ∀ q,q < m → getO h' q = getO h q) : Bld k enc n1 l h' d := by
  rcases hB with hB | ⟨r,q1,q2,q3,q4⟩
  · exact .inl hB
  · exact .inr ⟨r,q1,q2,q3,by rw [hk r (getO_low hg (show getO h r ≠ .none by rw [q4]; exact fun h => by cases h))]; exact q4⟩
theorem iaddr_ms {n k r l i : Nat} {h : Hps} {f : Bool} (hi : i < l) : iaddrD n h k (.ms k r 0 l f) i = .ok (.ptr r i 0) n h := by
  show ifR (Bool.and (Nat.blt i l) (Nat.beq k k)) (.ok (.ptr r (0 + i) 0) n h) = _
  rw [blt_iff,decide_eq_true hi,Nat.beq_refl,Nat.zero_add]; rfl
theorem store_v {m q i : Nat} {h : Hps} {l : List LV} {a : Int} (hi : i < l.length) : storeR false 1 q i 0 (.int .i64 a) m h (.row 2 (l.map encV)) = .ok .junk m (setO h q (.row 2 ((l.set i (a,l[i].2)).map encV))) := by
  have e1 : nth (l.map encV) i = encV l[i] := by rw [nth_eq,List.getD_eq_getElem?_getD,List.getElem?_map,List.getElem?_eq_getElem hi]; rfl
  show storeS q 2 i (l.map encV) m h (setS false 1 0 (nth (l.map encV) i) (.int .i64 a)) = _
  rw [e1]
  show ifR (Nat.blt i (lenL (l.map encV))) (.ok .junk m (setO h q (.row 2 (put (l.map encV) i (encV (a,l[i].2)))))) = _
  rw [lenL_eq,List.length_map,blt_iff,decide_eq_true hi,put_eq,List.map_set]
  rfl
theorem same_int (a : Int) : decide (a = a) = true := decide_eq_true rfl
theorem kStay (N : Int) (s : Sl LV) (hs : s.el.length ≤ 200) (n : Nat) (h : Hps) (hg : ∀ k,n ≤ k → GoodAt k h) : callFn (LX (cFk kN Try.prog)) n h [(D.agg [.int .i64 (N),slD 2 encV (lentV s)]),(D.agg [.int .i64 (N),slD 2 encV (s)])] (cFk kN Try.prog 38) = .ok (.bool true) n h := by
  have hgn := hg n (Nat.le_refl _)
  have lks : (lentV s).sp.length = 1 := rfl
  have lkl : (lentV s).el.length = s.el.length := rfl
  have H0 : Hp n h (n + 2) ((n + 1,(Ob.row 2 [.agg [.int .i64 (N),slD 2 encV (s)]])) :: (n,(Ob.row 2 [.agg [.int .i64 (N),slD 2 encV (lentV s)]])) :: h) := ((Hp.start hg).box (r := n) (m := n + 1) (Nat.le_refl _) (by omega) (flatL ⟨N,lentV s⟩)).box (r := n + 1) (m := n + 2) (by omega) (by omega) (flatL ⟨N,s⟩)
  have c1 : ∀ m,n + 2 ≤ m → callFn (LX (cFk kN Try.prog)) m ((n + 1,(Ob.row 2 [.agg [.int .i64 (N),slD 2 encV (s)]])) :: (n,(Ob.row 2 [.agg [.int .i64 (N),slD 2 encV (lentV s)]])) :: h) [(D.agg [.int .i64 (N),slD 2 encV (lentV s)]),(D.agg [.int .i64 (N),slD 2 encV (s)])] (cFk kN Try.prog 40) = .ok (.bool true) m ((n + 1,(Ob.row 2 [.agg [.int .i64 (N),slD 2 encV (s)]])) :: (n,(Ob.row 2 [.agg [.int .i64 (N),slD 2 encV (lentV s)]])) :: h) := fun m hm => by
    rw [lawExact m _ (H0.good' hm) N N _ _ _ _ _ _ (svV (lentV s)) (svV s) (by rw [lkl]; omega) (by omega),decide_eq_true ⟨rfl,rfl⟩]
  have hcl : s.el.length < ((lentV s).cut 0 (s.el.length + 1)).el.length := by
    show _ < ((((lentV s).el ++ (lentV s).sp).drop 0).take (s.el.length + 1 - 0)).length
    rw [List.drop_zero,List.length_take,List.length_append,lkl,lks]; omega
  have hce : ∀ hh,((lentV s).cut 0 (s.el.length + 1)).el[s.el.length]'hh = (-71,0) := fun hh => by
    have e : ((lentV s).cut 0 (s.el.length + 1)).el = s.el ++ [(-71,0)] := by
      show (((s.el ++ [(-71,0)]).drop 0).take (s.el.length + 1 - 0)) = _
      rw [List.drop_zero,List.take_of_length_le (by rw [List.length_append,List.length_singleton]; omega)]
    simp only [e]
    rw [List.getElem_append_right (by omega)]
    simp
  rw [f38_eq]; unfold c38; rw [callFn_eq (by rfl)]
  simp (disch:=first|assumption|omega|(simp (disch:=first|assumption|omega) only [sB,Nat.reduceAdd,Nat.reduceLT,Nat.reduceLeDiff,Nat.reduceEqDiff,Nat.reduceMul,↓reduceIte,hcl,lkl,lks];done)|fail) only [sA,↓reduceIte,Nat.reduceLT,Nat.reduceEqDiff,Nat.reduceAdd,Nat.reduceLeDiff,same_int,lkl,hce,encV,c1,hcl,lkl,lks]
theorem kAlive : callFn (LX (cFk kN Try.prog)) 4 [] [] ((cFk kN Try.prog) 33) = .ok (.bool true) 4 [] := by
  have h : callFn (exec (tL.look (cFk kN Try.prog)) 1000) 4 [] [] (tL.look (cFk kN Try.prog) 33) = .ok (.bool true) 4 [] := by kernel_rfl
  rw [Tb.look_eq tL_ok] at h
  exact callFn_LX _ h
set_option maxHeartbeats 8000000 in
theorem ln_run (N N' : Int) (s s' : Sl LV) : ∃ n' h',callFn (LX (cFk kN Try.prog)) 0 [] [(D.agg [.int .i64 (N),slD 2 encV (s)]),(D.agg [.int .i64 (N'),slD 2 encV (s')])] ((cFk kN Try.prog) 9) = .ok (.bool true) n' h' := by
  have g0 : ∀ m k,m ≤ k → GoodAt k [] := fun _ _ _ => good_nil
  have H0 : ∀ m,2 ≤ m → ∀ k,m ≤ k → GoodAt k ((1,(Ob.row 2 [.agg [.int .i64 (N'),slD 2 encV (s')]])) :: (0,(Ob.row 2 [.agg [.int .i64 (N),slD 2 encV (s)]])) :: []) := fun m hm => (((Hp.start (g0 0)).box (r := 0) (m := 1) (Nat.le_refl _) (by omega) (flatL ⟨N,s⟩)).box (r := 1) (m := 2) (by omega) (by omega) (flatL ⟨N',s'⟩)).good' hm
  have b1 : ∀ m,2 ≤ m → callFn (LX (cFk kN Try.prog)) m ((1,(Ob.row 2 [.agg [.int .i64 (N'),slD 2 encV (s')]])) :: (0,(Ob.row 2 [.agg [.int .i64 (N),slD 2 encV (s)]])) :: []) [(D.agg [.int .i64 (N),slD 2 encV (s)])] (cFk kN Try.prog 34) = .ok (.bool (decide (200 < s.el.length))) m ((1,(Ob.row 2 [.agg [.int .i64 (N'),slD 2 encV (s')]])) :: (0,(Ob.row 2 [.agg [.int .i64 (N),slD 2 encV (s)]])) :: []) := fun m hm => lawBig m _ (H0 m hm) N _ _ _ (svV s)
  have b2 : ∀ m,2 ≤ m → callFn (LX (cFk kN Try.prog)) m ((1,(Ob.row 2 [.agg [.int .i64 (N'),slD 2 encV (s')]])) :: (0,(Ob.row 2 [.agg [.int .i64 (N),slD 2 encV (s)]])) :: []) [(D.agg [.int .i64 (N'),slD 2 encV (s')])] (cFk kN Try.prog 34) = .ok (.bool (decide (200 < s'.el.length))) m ((1,(Ob.row 2 [.agg [.int .i64 (N'),slD 2 encV (s')]])) :: (0,(Ob.row 2 [.agg [.int .i64 (N),slD 2 encV (s)]])) :: []) := fun m hm => lawBig m _ (H0 m hm) N' _ _ _ (svV s')
  rw [f9_eq]; unfold c9; rw [callFn_eq (by rfl)]
  by_cases hs : 200 < s.el.length
  · rw [decide_eq_true hs] at b1
    simp (disch:=first|assumption|omega|(simp (disch:=first|assumption|omega) only [sB,Nat.reduceAdd,Nat.reduceLT,Nat.reduceLeDiff,Nat.reduceEqDiff,Nat.reduceMul,↓reduceIte];done)|fail) only [sA,↓reduceIte,Nat.reduceLT,Nat.reduceEqDiff,Nat.reduceAdd,Nat.reduceLeDiff,kAlive,b1]
    exact ⟨_,_,rfl⟩
  · rw [decide_eq_false hs] at b1
    by_cases hs' : 200 < s'.el.length
    · rw [decide_eq_true hs'] at b2
      simp (disch:=first|assumption|omega|(simp (disch:=first|assumption|omega) only [sB,Nat.reduceAdd,Nat.reduceLT,Nat.reduceLeDiff,Nat.reduceEqDiff,Nat.reduceMul,↓reduceIte];done)|fail) only [sA,↓reduceIte,Nat.reduceLT,Nat.reduceEqDiff,Nat.reduceAdd,Nat.reduceLeDiff,kAlive,b1,b2]
      exact ⟨_,_,rfl⟩
    · rw [decide_eq_false hs'] at b2
      have l1 : ∀ m,2 ≤ m → callFn (LX (cFk kN Try.prog)) m ((1,(Ob.row 2 [.agg [.int .i64 (N'),slD 2 encV (s')]])) :: (0,(Ob.row 2 [.agg [.int .i64 (N),slD 2 encV (s)]])) :: []) [(D.agg [.int .i64 (N),slD 2 encV (s)])] (cFk kN Try.prog 35) = .ok (D.agg [.int .i64 (N),slD 2 encV (lentV s)]) m ((1,(Ob.row 2 [.agg [.int .i64 (N'),slD 2 encV (s')]])) :: (0,(Ob.row 2 [.agg [.int .i64 (N),slD 2 encV (s)]])) :: []) := fun m hm => kLent N s (by omega) m _ (H0 m hm)
      have HK : Hp 0 [] 22 [(21,(Ob.row 2 [.agg [.int .i64 (N),slD 2 encV (lentV s)]])),(1,(Ob.row 2 [.agg [.int .i64 (N'),slD 2 encV (s')]])),(0,(Ob.row 2 [.agg [.int .i64 (N),slD 2 encV (s)]]))] := (((Hp.start (g0 0)).box (r := 0) (m := 1) (Nat.le_refl _) (by omega) (flatL ⟨N,s⟩)).box (r := 1) (m := 2) (by omega) (by omega) (flatL ⟨N',s'⟩)).box (r := 21) (m := 22) (by omega) (by omega) (flatL ⟨N,lentV s⟩)
      obtain ⟨d1,n1,h1,c1,P1,B1⟩ := kNorm 25 [(21,(Ob.row 2 [.agg [.int .i64 (N),slD 2 encV (lentV s)]])),(1,(Ob.row 2 [.agg [.int .i64 (N'),slD 2 encV (s')]])),(0,(Ob.row 2 [.agg [.int .i64 (N),slD 2 encV (s)]]))] (HK.good' (by omega)) N (slD 2 encV (lentV s)) _ _ (svV (lentV s))
      have z0 : getO h1 0 = (Ob.row 2 [.agg [.int .i64 (N),slD 2 encV (s)]]) := P1.get (by omega)
      have z1 : getO h1 1 = (Ob.row 2 [.agg [.int .i64 (N'),slD 2 encV (s')]]) := P1.get (by omega)
      have z2 : getO h1 21 = (Ob.row 2 [.agg [.int .i64 (N),slD 2 encV (lentV s)]]) := P1.get (by omega)
      have t1 := B1.okD
      have p1 := P1.le
      have hav : (Lev.nrm ⟨N,(lentV s).el⟩).1.v.length ≤ 200 := by
        unfold Lev.nrm
        split
        · exact Nat.le_trans (norm_len _) (by show s.el.length ≤ 200; omega)
        · exact Nat.zero_le _
      generalize hA : Lev.nrm ⟨N,(lentV s).el⟩ = A at c1 B1 hav
      replace hA : Lev.nrm ⟨N,s.el⟩ = A := hA
      obtain ⟨⟨an,av⟩,ae⟩ := A
      replace hav : av.length ≤ 200 := hav
      have HK1 : Hp 0 [] n1 h1 := (HK.mono (show 22 ≤ 25 by omega)).chain P1
      have HK2 : Hp 0 [] (n1 + 5) ((n1 + 4,(Ob.row 2 [.agg [.int .i64 (an),d1]])) :: h1) := HK1.cons (by omega) (by omega) (fun k hk => B1.box2 (P1.good k (by omega)))
      obtain ⟨d2,n2,h2,c2,P2,B2⟩ := kNorm (n1 + 9) ((n1 + 4,(Ob.row 2 [.agg [.int .i64 (an),d1]])) :: h1) (HK2.good' (by omega)) N' (slD 2 encV s') _ _ (svV s')
      have p2 := P2.le
      have y0 : getO h2 0 = (Ob.row 2 [.agg [.int .i64 (N),slD 2 encV (s)]]) := by rw [P2.get (by omega),getO_tl (by omega)]; exact z0
      have y1 : getO h2 1 = (Ob.row 2 [.agg [.int .i64 (N'),slD 2 encV (s')]]) := by rw [P2.get (by omega),getO_tl (by omega)]; exact z1
      have y2 : getO h2 21 = (Ob.row 2 [.agg [.int .i64 (N),slD 2 encV (lentV s)]]) := by rw [P2.get (by omega),getO_tl (by omega)]; exact z2
      have y3 : getO h2 (n1 + 4) = (Ob.row 2 [.agg [.int .i64 (an),d1]]) := by rw [P2.get (by omega),getO_hd]
      have t2 := B2.okD
      have B1' : Bld 2 encV 25 av h2 d1 := (B1.cons (P1.good n1 (Nat.le_refl _)) (show n1 ≤ n1 + 4 by omega)).keep (HK2.good (n1 + 5) (Nat.le_refl _)) (fun q hq => P2.get (by omega))
      have hbv : (Lev.nrm ⟨N',s'.el⟩).1.v.length ≤ 200 := by
        unfold Lev.nrm
        split
        · exact Nat.le_trans (norm_len _) (by show s'.el.length ≤ 200; omega)
        · exact Nat.zero_le _
      generalize Lev.nrm ⟨N',s'.el⟩ = A2 at c2 B2 hbv
      obtain ⟨⟨bn,bv⟩,be⟩ := A2
      replace hbv : bv.length ≤ 200 := hbv
      simp (disch:=first|assumption|omega|(simp (disch:=first|assumption|omega) only [sB,Nat.reduceAdd,Nat.reduceLT,Nat.reduceLeDiff,Nat.reduceEqDiff,Nat.reduceMul,↓reduceIte];done)|fail) only [sA,↓reduceIte,Nat.reduceLT,Nat.reduceEqDiff,Nat.reduceAdd,Nat.reduceLeDiff,kAlive,b1,b2,l1,c1,z0,z1,z2,t1,c2,t2]
      have HK3 : Hp 0 [] n2 h2 := (HK2.mono (show n1 + 5 ≤ n1 + 9 by omega)).chain P2
      have HK4 : Hp 0 [] (n2 + 5) ((n2 + 4,(Ob.row 2 [.agg [.int .i64 (bn),d2]])) :: h2) := HK3.cons (by omega) (by omega) (fun k hk => B2.box2 (P2.good k (by omega)))
      generalize hr : LX (cFk kN Try.prog) (.loop l9_0) _ _ _ = R
      obtain ⟨x,e3,n3,h3,rfl,rfl,H3,p3,K3,g2,g6,g7,g8⟩ := loop_up hr bv.length
        (fun i e n' h' => Hp 0 [] n' h' ∧ n2 + 5 ≤ n' ∧ (∀ q,q < n1 + 9 → getO h' q = getO h2 q) ∧ getO h' (n2 + 4) = (Ob.row 2 [.agg [.int .i64 (bn),d2]]) ∧ (∃ l' : List LV,l'.length = bv.length ∧ Bld 2 encV (n1 + 9) l' h' d2) ∧
          get (po 9) e = .ptr (n2 + 4) 0 0 ∧ get (po 11) e = .int .i64 (i : Nat) ∧ get (po 2) e = .ptr 0 0 0 ∧ get (po 6) e = .ptr 21 0 0 ∧ get (po 7) e = .ptr (n1 + 4) 0 0 ∧ get (po 8) e = .int .i64 ae)
        (fun x e n' h' => x = .exit 0 ∧ Hp 0 [] n' h' ∧ n2 + 5 ≤ n' ∧ (∀ q,q < n1 + 9 → getO h' q = getO h2 q) ∧ get (po 2) e = .ptr 0 0 0 ∧ get (po 6) e = .ptr 21 0 0 ∧ get (po 7) e = .ptr (n1 + 4) 0 0 ∧ get (po 8) e = .int .i64 ae)
        (by
          rintro e n' h' ⟨H,p,K,b,⟨l',hl',B⟩,g9,g11,g2,g6,g7,g8⟩
          have w1 : ∀ m h,lenD m h .slice d2 = .ok (.int .i64 (bv.length : Nat)) m h := fun m h => by rw [← hl']; exact (B.vw (H.good n' (Nat.le_refl _))).len m h
          have w2 := B.okD
          unfold l9_0
          simp (disch:=first|assumption|omega|(simp (disch:=first|assumption|omega) only [sB,Nat.reduceAdd,Nat.reduceLT,Nat.reduceLeDiff,Nat.reduceEqDiff,Nat.reduceMul,↓reduceIte];done)|fail) only [sA,↓reduceIte,Nat.reduceLT,Nat.reduceEqDiff,Nat.reduceAdd,Nat.reduceLeDiff,g9,g11,b,w1,w2]
          exact ⟨_,_,_,_,rfl,by simp,rfl,H.mono (by omega),by omega,K,by simp (disch:=first|assumption|omega|(simp (disch:=first|assumption|omega) only [sB,Nat.reduceAdd,Nat.reduceLT,Nat.reduceLeDiff,Nat.reduceEqDiff,Nat.reduceMul,↓reduceIte];done)|fail) only [sA,↓reduceIte,Nat.reduceLT,Nat.reduceEqDiff,Nat.reduceAdd,Nat.reduceLeDiff,g2],by simp (disch:=first|assumption|omega|(simp (disch:=first|assumption|omega) only [sB,Nat.reduceAdd,Nat.reduceLT,Nat.reduceLeDiff,Nat.reduceEqDiff,Nat.reduceMul,↓reduceIte];done)|fail) only [sA,↓reduceIte,Nat.reduceLT,Nat.reduceEqDiff,Nat.reduceAdd,Nat.reduceLeDiff,g6],by simp (disch:=first|assumption|omega|(simp (disch:=first|assumption|omega) only [sB,Nat.reduceAdd,Nat.reduceLT,Nat.reduceLeDiff,Nat.reduceEqDiff,Nat.reduceMul,↓reduceIte];done)|fail) only [sA,↓reduceIte,Nat.reduceLT,Nat.reduceEqDiff,Nat.reduceAdd,Nat.reduceLeDiff,g7],by simp (disch:=first|assumption|omega|(simp (disch:=first|assumption|omega) only [sB,Nat.reduceAdd,Nat.reduceLT,Nat.reduceLeDiff,Nat.reduceEqDiff,Nat.reduceMul,↓reduceIte];done)|fail) only [sA,↓reduceIte,Nat.reduceLT,Nat.reduceEqDiff,Nat.reduceAdd,Nat.reduceLeDiff,g8]⟩)
        (by
          rintro i e n' h' hi ⟨H,p,K,b,⟨l',hl',B⟩,g9,g11,g2,g6,g7,g8⟩
          have w1 : ∀ m h,lenD m h .slice d2 = .ok (.int .i64 (bv.length : Nat)) m h := fun m h => by rw [← hl']; exact (B.vw (H.good n' (Nat.le_refl _))).len m h
          have w2 := B.okD
          obtain ⟨r,q1,q2,q3,q4⟩ : ∃ r,l' ≠ [] ∧ n1 + 9 ≤ r ∧ d2 = .ms 2 r 0 l'.length false ∧ getO h' r = .row 2 (l'.map encV) := by
            rcases B with ⟨e1,_⟩ | B
            · rw [e1] at hl'; simp at hl'; omega
            · exact B
          have hil : i < l'.length := by omega
          have w3 : ∀ m h,iaddrD m h 2 d2 i = .ok (.ptr r i 0) m h := fun m h => by rw [q3]; exact iaddr_ms hil
          have w4 := fun m => store_v (m := m) (q := r) (h := h') (a := -1) hil
          have hne : n2 + 4 ≠ r := fun e1 => by rw [e1,q4] at b; injection b with b1 b2; have b3 := congrArg List.length b2; rw [List.length_map] at b3; simp only [List.length_cons,List.length_nil] at b3; cases l' with | nil => exact q1 rfl | cons y t => simp only [List.map_cons,List.cons.injEq,encV] at b2; injection b2.1 with b4; simp only [List.cons.injEq] at b4; rw [q3] at b4; cases b4.2.1
          unfold l9_0
          simp (disch:=first|assumption|omega|(simp (disch:=first|assumption|omega) only [sB,Nat.reduceAdd,Nat.reduceLT,Nat.reduceLeDiff,Nat.reduceEqDiff,Nat.reduceMul,↓reduceIte];done)|fail) only [sA,↓reduceIte,Nat.reduceLT,Nat.reduceEqDiff,Nat.reduceAdd,Nat.reduceLeDiff,g9,g11,b,w1,w2,w3,w4,q4]
          exact ⟨_,_,_,_,rfl,.inl ⟨rfl,(H.set (r := r) (by omega) (fun k hk => lowO_map (fun x => lowV k x))).mono (by omega),by omega,fun q hq => getO_set2 q4 (K q hq) (by omega),getO_set2 q4 b hne,⟨l'.set i (-1,l'[i].2),by rw [List.length_set]; exact hl',.inr ⟨r,by intro e1; exact q1 (by have := congrArg List.length e1; rw [List.length_set] at this; exact List.length_eq_zero_iff.1 this),q2,by rw [List.length_set]; exact q3,getO_set1 q4⟩⟩,by simp (disch:=first|assumption|omega|(simp (disch:=first|assumption|omega) only [sB,Nat.reduceAdd,Nat.reduceLT,Nat.reduceLeDiff,Nat.reduceEqDiff,Nat.reduceMul,↓reduceIte];done)|fail) only [sA,↓reduceIte,Nat.reduceLT,Nat.reduceEqDiff,Nat.reduceAdd,Nat.reduceLeDiff,g9],by simp (disch:=first|assumption|omega|(simp (disch:=first|assumption|omega) only [sB,Nat.reduceAdd,Nat.reduceLT,Nat.reduceLeDiff,Nat.reduceEqDiff,Nat.reduceMul,↓reduceIte];done)|fail) only [sA,↓reduceIte,Nat.reduceLT,Nat.reduceEqDiff,Nat.reduceAdd,Nat.reduceLeDiff],by simp (disch:=first|assumption|omega|(simp (disch:=first|assumption|omega) only [sB,Nat.reduceAdd,Nat.reduceLT,Nat.reduceLeDiff,Nat.reduceEqDiff,Nat.reduceMul,↓reduceIte];done)|fail) only [sA,↓reduceIte,Nat.reduceLT,Nat.reduceEqDiff,Nat.reduceAdd,Nat.reduceLeDiff,g2],by simp (disch:=first|assumption|omega|(simp (disch:=first|assumption|omega) only [sB,Nat.reduceAdd,Nat.reduceLT,Nat.reduceLeDiff,Nat.reduceEqDiff,Nat.reduceMul,↓reduceIte];done)|fail) only [sA,↓reduceIte,Nat.reduceLT,Nat.reduceEqDiff,Nat.reduceAdd,Nat.reduceLeDiff,g6],by simp (disch:=first|assumption|omega|(simp (disch:=first|assumption|omega) only [sB,Nat.reduceAdd,Nat.reduceLT,Nat.reduceLeDiff,Nat.reduceEqDiff,Nat.reduceMul,↓reduceIte];done)|fail) only [sA,↓reduceIte,Nat.reduceLT,Nat.reduceEqDiff,Nat.reduceAdd,Nat.reduceLeDiff,g7],by simp (disch:=first|assumption|omega|(simp (disch:=first|assumption|omega) only [sB,Nat.reduceAdd,Nat.reduceLT,Nat.reduceLeDiff,Nat.reduceEqDiff,Nat.reduceMul,↓reduceIte];done)|fail) only [sA,↓reduceIte,Nat.reduceLT,Nat.reduceEqDiff,Nat.reduceAdd,Nat.reduceLeDiff,g8]⟩⟩)
        ⟨HK4.mono (by omega),by omega,fun q hq => getO_tl (by omega),getO_hd,⟨bv,rfl,(B2.cons (P2.good n2 (Nat.le_refl _)) (by omega))⟩,by simp (disch:=first|assumption|omega|(simp (disch:=first|assumption|omega) only [sB,Nat.reduceAdd,Nat.reduceLT,Nat.reduceLeDiff,Nat.reduceEqDiff,Nat.reduceMul,↓reduceIte];done)|fail) only [sA,↓reduceIte,Nat.reduceLT,Nat.reduceEqDiff,Nat.reduceAdd,Nat.reduceLeDiff],by simp (disch:=first|assumption|omega|(simp (disch:=first|assumption|omega) only [sB,Nat.reduceAdd,Nat.reduceLT,Nat.reduceLeDiff,Nat.reduceEqDiff,Nat.reduceMul,↓reduceIte];done)|fail) only [sA,↓reduceIte,Nat.reduceLT,Nat.reduceEqDiff,Nat.reduceAdd,Nat.reduceLeDiff],by simp (disch:=first|assumption|omega|(simp (disch:=first|assumption|omega) only [sB,Nat.reduceAdd,Nat.reduceLT,Nat.reduceLeDiff,Nat.reduceEqDiff,Nat.reduceMul,↓reduceIte];done)|fail) only [sA,↓reduceIte,Nat.reduceLT,Nat.reduceEqDiff,Nat.reduceAdd,Nat.reduceLeDiff],by simp (disch:=first|assumption|omega|(simp (disch:=first|assumption|omega) only [sB,Nat.reduceAdd,Nat.reduceLT,Nat.reduceLeDiff,Nat.reduceEqDiff,Nat.reduceMul,↓reduceIte];done)|fail) only [sA,↓reduceIte,Nat.reduceLT,Nat.reduceEqDiff,Nat.reduceAdd,Nat.reduceLeDiff],by simp (disch:=first|assumption|omega|(simp (disch:=first|assumption|omega) only [sB,Nat.reduceAdd,Nat.reduceLT,Nat.reduceLeDiff,Nat.reduceEqDiff,Nat.reduceMul,↓reduceIte];done)|fail) only [sA,↓reduceIte,Nat.reduceLT,Nat.reduceEqDiff,Nat.reduceAdd,Nat.reduceLeDiff],by simp (disch:=first|assumption|omega|(simp (disch:=first|assumption|omega) only [sB,Nat.reduceAdd,Nat.reduceLT,Nat.reduceLeDiff,Nat.reduceEqDiff,Nat.reduceMul,↓reduceIte];done)|fail) only [sA,↓reduceIte,Nat.reduceLT,Nat.reduceEqDiff,Nat.reduceAdd,Nat.reduceLeDiff]⟩
      have x0 : getO h3 0 = (Ob.row 2 [.agg [.int .i64 (N),slD 2 encV (s)]]) := by rw [K3 0 (by omega)]; exact y0
      have x2 : getO h3 21 = (Ob.row 2 [.agg [.int .i64 (N),slD 2 encV (lentV s)]]) := by rw [K3 21 (by omega)]; exact y2
      have x3 : getO h3 (n1 + 4) = (Ob.row 2 [.agg [.int .i64 (an),d1]]) := by rw [K3 (n1 + 4) (by omega)]; exact y3
      have B1h : Bld 2 encV 25 av h3 d1 := (B1.keep (P1.good n1 (Nat.le_refl _)) (h' := h3) (fun q hq => by rw [K3 q (by omega),P2.get (by omega),getO_tl (by omega)]))
      have r1 : ∀ m,n3 ≤ m → callFn (LX (cFk kN Try.prog)) m h3 [(D.agg [.int .i64 (N),slD 2 encV (s)])] (cFk kN Try.prog 37) = .ok (D.tup [.agg [.int .i64 ((Lev.mk an av,ae)).1.n,slD 2 encV (Sl.app ((Lev.mk an av,ae)).1.v)],.int .i64 ((Lev.mk an av,ae)).2]) m h3 := fun m hm => by rw [← hA]; exact refNormA m h3 (H3.good' hm) N _ _ _ (svV s)
      have HQ : ∀ q,n3 ≤ q → ∀ m,q < m → ∀ k,m ≤ k → GoodAt k ((q,(Ob.row 2 [.agg [.int .i64 (an),slD 2 encV (Sl.app av)]])) :: h3) := fun q hq m hm => (H3.box (by omega) hm (flatL ⟨an,Sl.app av⟩)).good' (Nat.le_refl m)
      have r2 : ∀ q m,n3 ≤ q → q < m → callFn (LX (cFk kN Try.prog)) m ((q,(Ob.row 2 [.agg [.int .i64 (an),slD 2 encV (Sl.app av)]])) :: h3) [(D.agg [.int .i64 (N),slD 2 encV (lentV s)]),(D.agg [.int .i64 (N),slD 2 encV (s)])] (cFk kN Try.prog 38) = .ok (.bool true) m ((q,(Ob.row 2 [.agg [.int .i64 (an),slD 2 encV (Sl.app av)]])) :: h3) := fun q m hq hm => kStay N s (by omega) m _ (HQ q hq m hm)
      have r3 : ∀ q m,n3 ≤ q → q < m → callFn (LX (cFk kN Try.prog)) m ((q,(Ob.row 2 [.agg [.int .i64 (an),slD 2 encV (Sl.app av)]])) :: h3) [.int .i64 ae] (cFk kN Try.prog 39) = .ok (.int .i64 ae) m ((q,(Ob.row 2 [.agg [.int .i64 (an),slD 2 encV (Sl.app av)]])) :: h3) := fun q m hq hm => lawNum m _ (HQ q hq m hm) ae
      have r4 : ∀ q m,n3 ≤ q → q < m → callFn (LX (cFk kN Try.prog)) m ((q,(Ob.row 2 [.agg [.int .i64 (an),slD 2 encV (Sl.app av)]])) :: h3) [(D.agg [.int .i64 (an),d1]),(D.agg [.int .i64 (an),slD 2 encV (Sl.app av)])] (cFk kN Try.prog 40) = .ok (.bool true) m ((q,(Ob.row 2 [.agg [.int .i64 (an),slD 2 encV (Sl.app av)]])) :: h3) := fun q m hq hm => by
        obtain ⟨ad,S⟩ := (B1h.cons (H3.good n3 (Nat.le_refl _)) hq (o := (Ob.row 2 [.agg [.int .i64 (an),slD 2 encV (Sl.app av)]]))).sv (HQ q hq m hm m (Nat.le_refl _)) aggV
        rw [lawExact m _ (HQ q hq m hm) an an _ _ _ _ _ _ S (svA av) (by omega) (by omega),decide_eq_true ⟨rfl,rfl⟩]
      have t3 := B1h.okD
      simp (disch:=first|assumption|omega|(simp (disch:=first|assumption|omega) only [sB,Nat.reduceAdd,Nat.reduceLT,Nat.reduceLeDiff,Nat.reduceEqDiff,Nat.reduceMul,↓reduceIte];done)|fail) only [sA,↓reduceIte,Nat.reduceLT,Nat.reduceEqDiff,Nat.reduceAdd,Nat.reduceLeDiff,same_int,g2,g6,g7,g8,x0,x2,x3,r1,r2,r3,r4,t3]
      exact ⟨_,_,finish_flat (d := .bool true) rfl (H3.box (r := n3 + 6) (m := n3 + 27) (by omega) (by omega) (flatL ⟨an,Sl.app av⟩))⟩

set_option maxRecDepth 100000 in
theorem ln_lifted (os : Os) (started : os.Started) (H : Type) (enc : TypeId × Value → H) :
    ReturnsInHanded {} Try.checked os 9 .any (Rows.levelNormsSpec.pre6 enc Try.prog Try.f9 Rows.levelNormsRow.domain false) (Rows.levelNormsSpec.post enc Try.prog Try.f9 false true false false) := by
  refine law_lifted (K := kN) (C := Try.checked) (tb := 4) own started (by kernel_rfl) Try.func9
    (ChangeSpec.witness6 (enc := enc) (C := Try.checked) false ⟨#[],#[.agg #[.int .i64 0,.slice none 0 0],.agg #[.int .i64 0,.slice none 0 0]],[]⟩ 8 (by kernel_rfl) (by kernel_rfl) (by kernel_rfl) (by kernel_rfl))
    mixed laidOut rowed_maps full_slices (by kernel_rfl) rfl (by kernel_rfl) rfl ?_ ?_
  · intro ds hl
    match ds,hl with
    | [_,_],_ => rfl
  · intro ds l hA
    have hA : ArgsAre Try.prog [43,43] ds l := hA
    obtain ⟨x,y,f1,f2,rfl,h1,h2⟩ := args_two hA
    obtain ⟨l1,e1⟩ := lev_arg _ _ h1
    obtain ⟨l2,e2⟩ := lev_arg _ _ h2
    rw [e1,e2]
    exact ln_run l1.n l2.n l1.vs l2.vs

theorem LevelNorms_holds : Rows.LevelNormsSaid :=
  OpenClaim.holds_of_wide 9 Try.f9 rfl rfl rfl rfl rfl rfl rfl ⟨rfl,rfl,rfl,rfl,rfl⟩ rfl rfl rfl rfl rfl (by kernel_rfl) Try.func9 (by kernel_rfl)
    (of_decide_eq_true (by kernel_rfl)) (by unfold Func.isWrapper; first | (rw [if_pos (by decide +kernel)]; kernel_rfl) | (rw [if_neg (by decide +kernel)]; exact ⟨rfl,rfl⟩))
    (fun os started H enc _ => ln_lifted os started H enc)
end Go.Proofs.Ytjagmfgjlfkmgaa
