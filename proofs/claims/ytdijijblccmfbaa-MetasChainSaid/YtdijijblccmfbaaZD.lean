/- The metas of an application of the constant to the first meta: for the ring. No condition. -/
import Derived.Test.YtdijijblccmfbaaTV
import Derived.Test.YtdijijblccmfbaaTJ
import Derived.Test.YtdijijblccmfbaaCM1
set_option linter.unusedSimpArgs false
set_option linter.unusedVariables false
namespace Go.Proofs.Ytdijijblccmfbaa
open Go

def metaT (i : Int) : Tm := .mk 11 i false [] (Sl.app []) true false [] []
def conT : Tm := .mk 10 0 false [99] (Sl.app []) true false [] []
def set0 : Tm := .mk 2 0 false [] ⟨false,true,[⟨0,Sl.app []⟩],[]⟩ true false [] []
def tyS : Sl SLev := Sl.app [cloneL ⟨0,Sl.app []⟩]
theorem enc_meta (i : Int) : encT (metaT i) = .agg [.int .i64 11,.int .i64 i,.bool false,.str [],.nils,.nils] := by rw [encT_eq]; rfl
theorem enc_c : encT conT = .agg [.int .i64 10,.int .i64 0,.bool false,.str [99],.nils,.nils] := by rw [encT_eq]; rfl
noncomputable def slotD (v : Tm) (b : Bool) (w : D) : D := .agg [.int .i64 2,.int .i64 0,.bool false,.str [],slD 2 encL tyS,.nils,.int .i64 v.form,.int .i64 v.n,.bool v.hid,.str v.name,slD 2 encL v.levels,slD 6 encT v.kids,.bool b,w]
def RowAt (h : Hps) (xs : List Nat) (lD : D) : Prop := (xs = [] ∧ lD = .nils) ∨ ∃ lr,xs ≠ [] ∧ lD = .ms 1 lr 0 xs.length false ∧ getO h lr = .row 1 (xs.map fun x => .ptr x 0 0)
structure Sto (h : Hps) (s o : Nat) (xs : List Nat) (ws : Nat → Nat) (V : Nat → Tm) (a : Nat) : Prop where
  st : ∃ lD,getO h s = .row 2 [.agg [lD,.mp o]] ∧ RowAt h xs lD
  slot : ∀ i (hi : i < xs.length),getO h xs[i] = .row 14 [slotD (V i) (decide (i < a)) (if i < a then .nils else .ms 1 (ws i) 0 1 false)]
  wait : ∀ i,a ≤ i → i < xs.length → getO h (ws i) = .row 1 [.fn 83 [.agg [.ptr s 0 0,.int .i64 (i : Nat)]] []]
  opn : getO h o = .map ((List.range' a (xs.length - a)).map fun j => (.int .i64 (j : Nat),.int .i64 1))
  dist : xs.Nodup
  val : ∀ i,a ≤ i → V i = zeroT

theorem getO_ne {h : Hps} {r q : Nat} (h1 : getO h r ≠ getO h q) : r ≠ q := fun e => h1 (by rw [e])
theorem Sto.cons {h : Hps} {s o n q : Nat} {xs : List Nat} {ws : Nat → Nat} {V : Nat → Tm} {a : Nat} {x : Ob} (S : Sto h s o xs ws V a) (hg : Gd n h) (hq : n ≤ q) : Sto ((q,x) :: h) s o xs ws V a := by
  have low : ∀ r,getO h r ≠ .none → getO ((q,x) :: h) r = getO h r := fun r hr => by
    have := getO_low (hg n (Nat.le_refl _)) hr
    rw [getO_tl (by omega)]
  obtain ⟨lD,h1,h2⟩ := S.st
  refine ⟨⟨lD,?_,?_⟩,fun i hi => ?_,fun i ha hi => ?_,?_,S.dist,S.val⟩
  · rw [low s (by rw [h1]; simp)]; exact h1
  · rcases h2 with h2 | ⟨lr,k1,k2,k3⟩
    · exact .inl h2
    · exact .inr ⟨lr,k1,k2,by rw [low lr (by rw [k3]; simp)]; exact k3⟩
  · rw [low _ (by rw [S.slot i hi]; simp)]; exact S.slot i hi
  · rw [low _ (by rw [S.wait i ha hi]; simp)]; exact S.wait i ha hi
  · rw [low o (by rw [S.opn]; simp)]; exact S.opn
theorem Sto.set {h : Hps} {s o q : Nat} {xs : List Nat} {ws : Nat → Nat} {V : Nat → Tm} {a : Nat} {x : Ob} (S : Sto h s o xs ws V a) (hb : (∃ i,getO h q = .row 1 [.int .i64 i]) ∨ ((∃ es,getO h q = .map es) ∧ q ≠ o)) : Sto (setO h q x) s o xs ws V a := by
  have hq : getO h q ≠ .none := by rcases hb with ⟨i,e⟩ | ⟨⟨i,e⟩,_⟩ <;> rw [e] <;> simp
  have keep : ∀ r,r ≠ q → getO (setO h q x) r = getO h r := fun r hr => by rw [getO_setO _ _ _ _ hq,if_neg hr]
  have row : ∀ {r k : Nat} {es : List D},getO h r = .row k es → (∀ i,¬ (k = 1 ∧ es = [.int .i64 i])) → r ≠ q := fun {r k es} hr hne e => by
    subst e
    rcases hb with ⟨i,e⟩ | ⟨⟨i,e⟩,_⟩
    · rw [hr] at e; cases e; exact hne i ⟨rfl,rfl⟩
    · rw [hr] at e; cases e
  obtain ⟨lD,h1,h2⟩ := S.st
  refine ⟨⟨lD,?_,?_⟩,fun i hi => ?_,fun i ha hi => ?_,?_,S.dist,S.val⟩
  · rw [keep s (row h1 (fun i e => by cases e.1))]; exact h1
  · rcases h2 with h2 | ⟨lr,k1,k2,k3⟩
    · exact .inl h2
    · refine .inr ⟨lr,k1,k2,?_⟩
      rw [keep lr (row k3 (fun i e => ?_))]
      · exact k3
      · cases xs with
        | nil => exact k1 rfl
        | cons y t => have := e.2; cases this
  · rw [keep _ (row (S.slot i hi) (fun i e => by cases e.1))]; exact S.slot i hi
  · rw [keep _ (row (S.wait i ha hi) (fun i e => by cases e.2))]; exact S.wait i ha hi
  · rw [keep o (fun e => ?_)]
    · exact S.opn
    · rcases hb with ⟨i,e2⟩ | ⟨_,e2⟩
      · rw [← e,S.opn] at e2; cases e2
      · exact e2 e.symm
theorem fin_low {n m r : Nat} {h : Hps} (hg : GoodAt n h) (hr : r < n) : finishD n m h (.ptr r 0 0) = .ok (.ptr r 0 0) n h := by
  have e1 : Nat.ble n r = false := by rw [ble_iff,decide_eq_false (by omega)]
  have e2 : Nat.blt r n = true := by
    show Nat.ble (r + 1) n = true
    rw [ble_iff,decide_eq_true (by omega)]
  unfold finishD
  show Bool.rec (motive := fun _ => Rd) (finishF n m h (.ptr r 0 0) (frz h n 60 (.ptr r 0 0))) (.ok (.ptr r 0 0) m h) (Bool.or (Nat.ble n r) (leak n h)) = _
  rw [e1,good_leak hg]
  show finishF n m h (.ptr r 0 0) (Bool.rec (motive := fun _ => D) (frzP (frz h n 59) 0 0 (getO h r)) (.ptr r 0 0) (Nat.blt r n)) = _
  rw [e2]
  show Bool.rec (motive := fun _ => Rd) (.ok (.ptr r 0 0) n (dropFrom n h)) (.ok (.ptr r 0 0) m h) (Bool.or false (Nat.ble n r)) = _
  rw [e1,good_drop hg]
  rfl
theorem ptr_nil {m r i j : Nat} {g : Hps} {b : Bool} : obR m g b (eqD .ptr (.ptr r i j) .nilp) = .ok (.bool b) m g := by cases b <;> rfl
theorem map_getD {xs : List Nat} {k : Nat} (hk : k < xs.length) : (xs.map fun x => D.ptr x 0 0).getD k .junk = .ptr xs[k] 0 0 := by
  rw [List.getD_eq_getElem?_getD,List.getElem?_map,List.getElem?_eq_getElem hk]; rfl
set_option maxHeartbeats 4000000 in
theorem pGet {n : Nat} {h : Hps} (hg : Gd n h) {s o : Nat} {xs : List Nat} {ws : Nat → Nat} {V : Nat → Tm} {a : Nat} (S : Sto h s o xs ws V a) {k : Nat} (hk : k < xs.length) : callFn (LX (cF Try.prog)) n h [.ptr s 0 0,.int .i64 (k : Nat)] (cF Try.prog 84) = .ok (.ptr xs[k] 0 0) n h := by
  have hgn := hg n (Nat.le_refl _)
  obtain ⟨lD,h1,h2⟩ := S.st
  rcases h2 with ⟨rfl,_⟩ | ⟨lr,k1,rfl,k3⟩
  · cases hk
  have hx : xs[k] < n := getO_low hgn (by rw [S.slot k hk]; simp)
  have e := map_getD hk
  rw [f84_eq]; unfold c84; rw [callFn_eq (by rfl)]
  simp (disch:=first|assumption|omega|(simp (disch:=first|assumption|omega) only [sB,Nat.reduceAdd,Nat.reduceLT,Nat.reduceLeDiff,Nat.reduceEqDiff,Nat.reduceMul,↓reduceIte,hk];done)|fail) only [sA,↓reduceIte,Nat.reduceLT,Nat.reduceEqDiff,Nat.reduceAdd,Nat.reduceLeDiff,h1,k3,e,iaddr_ms,hk]
  exact fin_low hgn hx
end Go.Proofs.Ytdijijblccmfbaa
set_option linter.unusedSimpArgs false
set_option linter.unusedVariables false
namespace Go.Proofs.Ytdijijblccmfbaa
open Go

structure IsFn (n : Nat) (f : D) : Prop where
  sub : ∀ k,Ytdijijblccmfbaa.sub false k 0 f = f
  ok : ∀ m h,okD m h f = .ok f m h
  box : ∀ m h,boxD m h 1 f = .ok (.ptr m 0 0) m ((m,.row 1 [f]) :: h)
  low : ∀ m,n ≤ m → low m f
theorem isFn {n g : Nat} {a c : List D} (hl : ∀ m,n ≤ m → low m (.fn g a c)) : IsFn n (.fn g a c) := ⟨fun _ => rfl,fun _ _ => rfl,fun _ _ => rfl,hl⟩
theorem low_fn {m g : Nat} {a c : List D} (ha : ∀ d,d ∈ a → hasR m 19 d = false) (hc : ∀ d,d ∈ c → hasR m 19 d = false) : low m (.fn g a c) := by
  have e1 : allL (fun d => Bool.not (hasR m 19 d)) a = true := by
    rw [allL_eq,List.all_eq_true]; intro d hd; rw [ha d hd]; rfl
  have e2 : allL (fun d => Bool.not (hasR m 19 d)) c = true := by
    rw [allL_eq,List.all_eq_true]; intro d hd; rw [hc d hd]; rfl
  show Bool.not (Bool.and (allL (fun d => Bool.not (hasR m 19 d)) a) (allL (fun d => Bool.not (hasR m 19 d)) c)) = false
  rw [e1,e2]; rfl

theorem flat6 (f a : Int) (b : Bool) (c : List Nat) (l : Sl SLev) (ks : Sl Tm) : flat (.agg [.int .i64 f,.int .i64 a,.bool b,.str c,slD 2 encL l,slD 6 encT ks]) = true := flatTA (.mk f a b c l ks.nil ks.full ks.el ks.sp)
set_option maxHeartbeats 4000000 in
theorem pM1 {n : Nat} {h h1 : Hps} (hg : Gd n h) (hg1 : Gd n h1) (t : Tm) (d : Int) {q : Nat} {f : D} (hf : IsFn n f) (hb : getO h q = .row 1 [f]) {b : Bool}
    (hc : t.form = 11 → callX (cF Try.prog) (LX (cF Try.prog)) (n + 10) ((n,(Ob.row 6 [.agg [.int .i64 (t).form,.int .i64 (t).n,.bool (t).hid,.str (t).name,slD 2 encL (t).levels,slD 6 encT (t).kids]])) :: h) f [.int .i64 t.n] = .ok (.bool b) (n + 10) ((n,(Ob.row 6 [.agg [.int .i64 (t).form,.int .i64 (t).n,.bool (t).hid,.str (t).name,slD 2 encL (t).levels,slD 6 encT (t).kids]])) :: h1)) (hc' : t.form ≠ 11 → b = false ∧ h1 = h) :
    callFn (LX (cF Try.prog)) n h [(D.agg [.int .i64 (t).form,.int .i64 (t).n,.bool (t).hid,.str (t).name,slD 2 encL (t).levels,slD 6 encT (t).kids]),.int .i64 d,.ptr q 0 0] (cF Try.prog 112) = .ok (.bool b) n h1 := by
  have hgn := hg n (Nat.le_refl _)
  have hq : q < n := getO_low hgn (by rw [hb]; simp)
  have hs := hf.sub
  have ho := hf.ok
  rw [f112_eq]; unfold c112; rw [callFn_eq (by rfl)]
  by_cases h11 : t.form = 11
  · have c1 := hc h11
    rw [h11] at c1
    simp (disch:=first|assumption|omega|(simp (disch:=first|assumption|omega) only [sB,Nat.reduceAdd,Nat.reduceLT,Nat.reduceLeDiff,Nat.reduceEqDiff,Nat.reduceMul,↓reduceIte];done)|fail) only [sA,↓reduceIte,Nat.reduceLT,Nat.reduceEqDiff,Nat.reduceAdd,Nat.reduceLeDiff,h11,hb,hs,ho,c1]
    exact finish_flat rfl (((Hp.start hg1).box (r := n) (m := n + 1) (Nat.le_refl _) (by omega) (flat6 _ _ _ _ _ _)).mono (by omega))
  · obtain ⟨rfl,rfl⟩ := hc' h11
    simp (disch:=first|assumption|omega|(simp (disch:=first|assumption|omega) only [sB,Nat.reduceAdd,Nat.reduceLT,Nat.reduceLeDiff,Nat.reduceEqDiff,Nat.reduceMul,↓reduceIte];done)|fail) only [sA,↓reduceIte,Nat.reduceLT,Nat.reduceEqDiff,Nat.reduceAdd,Nat.reduceLeDiff,h11,hb,hs,ho]
set_option maxHeartbeats 4000000 in
theorem pAny0 {n : Nat} {h h1 : Hps} (hg : Gd n h) (hg1 : Gd n h1) (t : Tm) (hk : t.kids.el.length = 0) (d : Int) {c : D} {b : Bool}
    (hc : callX (cF Try.prog) (LX (cF Try.prog)) (n + 6) ((n,(Ob.row 6 [.agg [.int .i64 (t).form,.int .i64 (t).n,.bool (t).hid,.str (t).name,slD 2 encL (t).levels,slD 6 encT (t).kids]])) :: h) c [(D.agg [.int .i64 (t).form,.int .i64 (t).n,.bool (t).hid,.str (t).name,slD 2 encL (t).levels,slD 6 encT (t).kids]),.int .i64 d] = .ok (.bool b) (n + 6) ((n,(Ob.row 6 [.agg [.int .i64 (t).form,.int .i64 (t).n,.bool (t).hid,.str (t).name,slD 2 encL (t).levels,slD 6 encT (t).kids]])) :: h1)) :
    callFn (LX (cF Try.prog)) n h [(D.agg [.int .i64 (t).form,.int .i64 (t).n,.bool (t).hid,.str (t).name,slD 2 encL (t).levels,slD 6 encT (t).kids]),.int .i64 d,c] (cF Try.prog 106) = .ok (.bool b) n h1 := by
  have hgn := hg n (Nat.le_refl _)
  have H1 := (Hp.start hg1).box (r := n) (m := n + 1) (k := 6) (Nat.le_refl _) (by omega) (flatTA t)
  rw [f106_eq]; unfold c106; rw [callFn_eq (by rfl)]
  cases b with
  | true =>
    simp (disch:=first|assumption|omega|(simp (disch:=first|assumption|omega) only [sB,Nat.reduceAdd,Nat.reduceLT,Nat.reduceLeDiff,Nat.reduceEqDiff,Nat.reduceMul,↓reduceIte];done)|fail) only [sA,↓reduceIte,Nat.reduceLT,Nat.reduceEqDiff,Nat.reduceAdd,Nat.reduceLeDiff,hc]
    exact finish_flat rfl (H1.mono (by omega))
  | false =>
    simp (disch:=first|assumption|omega|(simp (disch:=first|assumption|omega) only [sB,Nat.reduceAdd,Nat.reduceLT,Nat.reduceLeDiff,Nat.reduceEqDiff,Nat.reduceMul,↓reduceIte];done)|fail) only [sA,↓reduceIte,Nat.reduceLT,Nat.reduceEqDiff,Nat.reduceAdd,Nat.reduceLeDiff,hc,hk,LX_loop]
    unfold l106_0
    simp (disch:=first|assumption|omega|(simp (disch:=first|assumption|omega) only [sB,Nat.reduceAdd,Nat.reduceLT,Nat.reduceLeDiff,Nat.reduceEqDiff,Nat.reduceMul,↓reduceIte];done)|fail) only [sA,↓reduceIte,Nat.reduceLT,Nat.reduceEqDiff,Nat.reduceAdd,Nat.reduceLeDiff,hk]
    exact finish_flat rfl (H1.mono (by omega))
set_option maxHeartbeats 4000000 in
theorem pMetas {n : Nat} {h h1 : Hps} (hg : Gd n h) (hg1 : Gd n h1) (t : Tm) (hk : t.kids.el.length = 0) {f : D} (hf : IsFn n f) {b : Bool}
    (hc : t.form = 11 → callX (cF Try.prog) (LX (cF Try.prog)) (n + 22) ((n + 12,(Ob.row 6 [.agg [.int .i64 (t).form,.int .i64 (t).n,.bool (t).hid,.str (t).name,slD 2 encL (t).levels,slD 6 encT (t).kids]])) :: (n + 6,(Ob.row 6 [.agg [.int .i64 (t).form,.int .i64 (t).n,.bool (t).hid,.str (t).name,slD 2 encL (t).levels,slD 6 encT (t).kids]])) :: (n + 1,.row 1 [f]) :: (n,(Ob.row 6 [.agg [.int .i64 (t).form,.int .i64 (t).n,.bool (t).hid,.str (t).name,slD 2 encL (t).levels,slD 6 encT (t).kids]])) :: h) f [.int .i64 t.n] = .ok (.bool b) (n + 22) ((n + 12,(Ob.row 6 [.agg [.int .i64 (t).form,.int .i64 (t).n,.bool (t).hid,.str (t).name,slD 2 encL (t).levels,slD 6 encT (t).kids]])) :: (n + 6,(Ob.row 6 [.agg [.int .i64 (t).form,.int .i64 (t).n,.bool (t).hid,.str (t).name,slD 2 encL (t).levels,slD 6 encT (t).kids]])) :: (n + 1,.row 1 [f]) :: (n,(Ob.row 6 [.agg [.int .i64 (t).form,.int .i64 (t).n,.bool (t).hid,.str (t).name,slD 2 encL (t).levels,slD 6 encT (t).kids]])) :: h1)) (hc' : t.form ≠ 11 → b = false ∧ h1 = h) :
    callFn (LX (cF Try.prog)) n h [(D.agg [.int .i64 (t).form,.int .i64 (t).n,.bool (t).hid,.str (t).name,slD 2 encL (t).levels,slD 6 encT (t).kids]),f] (cF Try.prog 85) = .ok (.bool b) n h1 := by
  have hgn := hg n (Nat.le_refl _)
  have hs := hf.sub
  have ho := hf.ok
  have hx := hf.box
  have HH : ∀ g,Gd n g → Hp n g (n + 2) ((n + 1,.row 1 [f]) :: (n,(Ob.row 6 [.agg [.int .i64 (t).form,.int .i64 (t).n,.bool (t).hid,.str (t).name,slD 2 encL (t).levels,slD 6 encT (t).kids]])) :: g) := fun g hg => ((Hp.start hg).box (r := n) (m := n + 1) (k := 6) (Nat.le_refl _) (by omega) (flatTA t)).cons (r := n + 1) (m := n + 2) (by omega) (by omega) (fun k hk => lowO_one (hf.low k (by omega)))
  have G2 : ∀ g,Gd n g → Gd (n + 6) ((n + 1,.row 1 [f]) :: (n,(Ob.row 6 [.agg [.int .i64 (t).form,.int .i64 (t).n,.bool (t).hid,.str (t).name,slD 2 encL (t).levels,slD 6 encT (t).kids]])) :: g) := fun g hg k hk => (HH g hg).good k (by omega)
  have G3 : ∀ g,Gd n g → Gd (n + 12) ((n + 6,(Ob.row 6 [.agg [.int .i64 (t).form,.int .i64 (t).n,.bool (t).hid,.str (t).name,slD 2 encL (t).levels,slD 6 encT (t).kids]])) :: (n + 1,.row 1 [f]) :: (n,(Ob.row 6 [.agg [.int .i64 (t).form,.int .i64 (t).n,.bool (t).hid,.str (t).name,slD 2 encL (t).levels,slD 6 encT (t).kids]])) :: g) := fun g hg => by rw [gd_tm (by omega)]; exact (G2 g hg).mono (by omega)
  have c2 : callFn (LX (cF Try.prog)) (n + 6) ((n + 1,.row 1 [f]) :: (n,(Ob.row 6 [.agg [.int .i64 (t).form,.int .i64 (t).n,.bool (t).hid,.str (t).name,slD 2 encL (t).levels,slD 6 encT (t).kids]])) :: h) [(D.agg [.int .i64 (t).form,.int .i64 (t).n,.bool (t).hid,.str (t).name,slD 2 encL (t).levels,slD 6 encT (t).kids]),.int .i64 0,.fn 112 [] [.ptr (n + 1) 0 0]] (cF Try.prog 106) = .ok (.bool b) (n + 6) ((n + 1,.row 1 [f]) :: (n,(Ob.row 6 [.agg [.int .i64 (t).form,.int .i64 (t).n,.bool (t).hid,.str (t).name,slD 2 encL (t).levels,slD 6 encT (t).kids]])) :: h1) := by
    refine pAny0 (G2 h hg) (G2 h1 hg1) t hk 0 ?_
    rw [callX_fn]
    refine pM1 (n := n + 12) (f := f) (G3 h hg) (G3 h1 hg1) t 0 ⟨hs,ho,hx,fun m hm => hf.low m (by omega)⟩ (by rw [getO_tl (by omega),getO_hd]) ?_ (fun e => ?_)
    · exact hc
    · obtain ⟨rfl,rfl⟩ := hc' e
      exact ⟨rfl,rfl⟩
  rw [f85_eq]; unfold c85; rw [callFn_eq (by rfl)]
  simp (disch:=first|assumption|omega|(simp (disch:=first|assumption|omega) only [sB,Nat.reduceAdd,Nat.reduceLT,Nat.reduceLeDiff,Nat.reduceEqDiff,Nat.reduceMul,↓reduceIte];done)|fail) only [sA,↓reduceIte,Nat.reduceLT,Nat.reduceEqDiff,Nat.reduceAdd,Nat.reduceLeDiff,hx,c2]
  exact finish_flat rfl ((HH h1 hg1).mono (by omega))
end Go.Proofs.Ytdijijblccmfbaa
set_option linter.unusedSimpArgs false
set_option linter.unusedVariables false
namespace Go.Proofs.Ytdijijblccmfbaa
open Go

theorem sub_mp {k r : Nat} : sub false k 0 (.mp r) = .mp r := eqOf rfl
theorem sub_vl {a0 a1 a2 a3 a4 a5 b0 b1 b2 b3 b4 b5 c d : D} : sub true 6 6 (.agg [a0,a1,a2,a3,a4,a5,b0,b1,b2,b3,b4,b5,c,d]) = .agg [b0,b1,b2,b3,b4,b5] := eqOf rfl
theorem find_none {l : List (Int × D)} {k : Int} (hl : ∀ p,p ∈ l → p.1 ≠ k) : findK (.int .i64) (.int .i64 k) (l.map fun p => (D.int .i64 p.1,p.2)) = .none := by
  rw [find_app]
  have : l.find? (fun p => p.1 == k) = none := List.find?_eq_none.2 fun p hp e => hl p hp (beq_iff_eq.1 e)
  rw [this]
noncomputable def mapO (l : List Int) : Ob := .map ((l.map fun i => (i,D.int .i64 1)).map fun p => (D.int .i64 p.1,p.2))
theorem look_no {n m : Nat} {h : Hps} {l : List Int} {k : Int} (hm : getO h m = mapO l) (hl : ∀ p,p ∈ l → p ≠ k) : lookD n h (.int .i64) (.int .i64 0) false (.int .i64 k) (.mp m) = .ok (.int .i64 0) n h := by
  show lookR n h (.int .i64) (.int .i64 0) false (.int .i64 k) (getO h m) = _
  rw [hm]
  show lookF n h (.int .i64 0) false (findK (.int .i64) (.int .i64 k) _) = _
  rw [find_none (fun p hp => by obtain ⟨x,hx,rfl⟩ := List.mem_map.1 hp; exact hl x hx)]
  rfl
theorem mupd_new {n m : Nat} {h : Hps} {l : List Int} {k : Int} (hm : getO h m = mapO l) (hl : ∀ p,p ∈ l → p ≠ k) : mupdD n h (.int .i64) (.int .i64 k) (.int .i64 1) (.mp m) = .ok .junk n (setO h m (mapO (l ++ [k]))) := by
  have hl2 : ∀ p,p ∈ (l.map fun i => (i,D.int .i64 1)) → p.1 ≠ k := fun p hp => by obtain ⟨x,hx,rfl⟩ := List.mem_map.1 hp; exact hl x hx
  show mupdR n h (.int .i64) m (.int .i64 k) (.int .i64 1) (getO h m) = _
  rw [hm]
  show mupdF n h m (putK (.int .i64) (.int .i64 k) (.int .i64 1) _) (findK (.int .i64) (.int .i64 k) _) = _
  rw [find_none hl2,put_app _ hl2]
  unfold mapO
  rw [List.map_append (l₁ := l)]
  rfl
theorem map_low {k : Nat} (l : List Int) : lowO k (mapO l) := by
  induction l with
  | nil => rfl
  | cons x t ih => exact ih
theorem setO_id {r : Nat} {x : Ob} : ∀ {h : Hps},getO h r = x → x ≠ .none → setO h r x = h
  | [],e,hx => by exact absurd e.symm hx
  | (q,o) :: t,e,hx => by
    by_cases hq : q = r
    · subst hq; rw [getO_hd] at e; rw [setO_hd,e]
    · rw [getO_tl hq] at e; rw [setO_tl hq,setO_id e hx]
theorem setO_set {r : Nat} {x y : Ob} : ∀ {h : Hps},setO (setO h r x) r y = setO h r y
  | [] => by rfl
  | (q,o) :: t => by
    by_cases hq : q = r
    · subst hq; rw [setO_hd,setO_hd,setO_hd]
    · rw [setO_tl hq,setO_tl hq,setO_tl hq,setO_set]
section
set_option linter.unusedSectionVars false
variable {n : Nat} {h : Hps} (hg : Gd n h) {s o : Nat} {xs : List Nat} {ws : Nat → Nat} {V : Nat → Tm} {a : Nat} (S : Sto h s o xs ws V a)
include hg S
theorem pS1 {k q : Nat} (hk : k < xs.length) (hb : getO h q = .row 1 [.ptr s 0 0]) : callFn (LX (cF Try.prog)) n h [.int .i64 (k : Nat),.ptr q 0 0] (cF Try.prog 86) = .ok (.bool false) n h := by
  have hgn := hg n (Nat.le_refl _)
  have c1 : ∀ m,n ≤ m → callFn (LX (cF Try.prog)) m h [.ptr s 0 0,.int .i64 (k : Nat)] (cF Try.prog 84) = .ok (.ptr xs[k] 0 0) m h := fun m hm => pGet (hg.mono hm) S hk
  rw [f86_eq]; unfold c86; rw [callFn_eq (by rfl)]
  simp (disch:=first|assumption|omega|(simp (disch:=first|assumption|omega) only [sB,Nat.reduceAdd,Nat.reduceLT,Nat.reduceLeDiff,Nat.reduceEqDiff,Nat.reduceMul,↓reduceIte];done)|fail) only [sA,↓reduceIte,Nat.reduceLT,Nat.reduceEqDiff,Nat.reduceAdd,Nat.reduceLeDiff,hb,c1,ptr_nil]
theorem slot_solved {k : Nat} (hk : k < xs.length) (ha : k < a) : getO h xs[k] = .row 14 [slotD (V k) true .nils] := by
  have := S.slot k hk
  rw [if_pos ha,decide_eq_true ha] at this
  exact this
theorem slot_open {k : Nat} (hk : k < xs.length) (ha : a ≤ k) : getO h xs[k] = .row 14 [slotD zeroT false (.ms 1 (ws k) 0 1 false)] := by
  have := S.slot k hk
  rw [if_neg (by omega),decide_eq_false (by omega),S.val k ha] at this
  exact this
set_option maxHeartbeats 4000000 in
theorem pR1 {k N q1 q2 q3 m : Nat} (hk : k < xs.length) (b1 : getO h q1 = .row 1 [.ptr s 0 0]) (b2 : getO h q2 = .row 1 [.int .i64 (N : Nat)]) (b3 : getO h q3 = .row 1 [.mp m]) :
    (k = N → callFn (LX (cF Try.prog)) n h [.int .i64 (k : Nat),.ptr q1 0 0,.ptr q2 0 0,.ptr q3 0 0] (cF Try.prog 113) = .ok (.bool true) n h) ∧
    (k ≠ N → a ≤ k → callFn (LX (cF Try.prog)) n h [.int .i64 (k : Nat),.ptr q1 0 0,.ptr q2 0 0,.ptr q3 0 0] (cF Try.prog 113) = .ok (.bool false) n h) ∧
    (k ≠ N → k < a → ∀ l : List Int,(∀ p,p ∈ l → p ≠ (k : Int)) → getO h m = mapO l → ∀ (b : Bool) (h1 : Hps),Gd n h1 →
      callFn (LX (cF Try.prog)) (n + 7696581394464) (setO h m (mapO (l ++ [(k : Int)]))) [.ptr s 0 0,(D.agg [.int .i64 (V k).form,.int .i64 (V k).n,.bool (V k).hid,.str (V k).name,slD 2 encL (V k).levels,slD 6 encT (V k).kids]),.int .i64 (N : Nat),.mp m] (cF Try.prog 87) = .ok (.bool b) (n + 7696581394464) h1 →
      callFn (LX (cF Try.prog)) n h [.int .i64 (k : Nat),.ptr q1 0 0,.ptr q2 0 0,.ptr q3 0 0] (cF Try.prog 113) = .ok (.bool b) n h1) := by
  have hgn := hg n (Nat.le_refl _)
  have c1 : ∀ m,n ≤ m → callFn (LX (cF Try.prog)) m h [.ptr s 0 0,.int .i64 (k : Nat)] (cF Try.prog 84) = .ok (.ptr xs[k] 0 0) m h := fun m hm => pGet (hg.mono hm) S hk
  refine ⟨fun e => ?_,fun e ha => ?_,fun e ha l hl hm b h1 hg1 hrec => ?_⟩
  · subst e
    rw [f113_eq]; unfold c113; rw [callFn_eq (by rfl)]
    simp (disch:=first|assumption|omega|(simp (disch:=first|assumption|omega) only [sB,Nat.reduceAdd,Nat.reduceLT,Nat.reduceLeDiff,Nat.reduceEqDiff,Nat.reduceMul,↓reduceIte];done)|fail) only [sA,↓reduceIte,Nat.reduceLT,Nat.reduceEqDiff,Nat.reduceAdd,Nat.reduceLeDiff,b1,b2,c1,ptr_nil]
  · have hs := slot_open hg S hk ha
    have e2 : ¬ ((k : Nat) : Int) = ((N : Nat) : Int) := by omega
    unfold slotD at hs
    rw [f113_eq]; unfold c113; rw [callFn_eq (by rfl)]
    simp (disch:=first|assumption|omega|(simp (disch:=first|assumption|omega) only [sB,Nat.reduceAdd,Nat.reduceLT,Nat.reduceLeDiff,Nat.reduceEqDiff,Nat.reduceMul,↓reduceIte];done)|fail) only [sA,↓reduceIte,Nat.reduceLT,Nat.reduceEqDiff,Nat.reduceAdd,Nat.reduceLeDiff,b1,b2,c1,ptr_nil,hs,e2]
  · have hs := slot_solved hg S hk ha
    have e2 : ¬ ((k : Nat) : Int) = ((N : Nat) : Int) := by omega
    unfold slotD at hs
    rw [f113_eq]; unfold c113; rw [callFn_eq (by rfl)]
    have L1 := fun i => look_no (n := i) hm hl
    have L2 := fun i => mupd_new (n := i) hm hl
    have nm : getO h m ≠ .none := by rw [hm]; exact fun e => by cases e
    generalize hM : mapO (l ++ [(k : Int)]) = M at hrec L2
    have keep : ∀ {r kk : Nat} {es : List D},getO h r = .row kk es → getO (setO h m M) r = .row kk es := fun {r kk es} hr => by
      rw [getO_setO _ _ _ _ nm,if_neg (fun e => by subst e; rw [hr] at hm; cases hm)]; exact hr
    have k1 := keep b1
    have k2 := keep b2
    have k3 := keep b3
    have ks := keep hs
    simp (disch:=first|assumption|omega|(simp (disch:=first|assumption|omega) only [sB,Nat.reduceAdd,Nat.reduceLT,Nat.reduceLeDiff,Nat.reduceEqDiff,Nat.reduceMul,↓reduceIte];done)|fail) only [sA,↓reduceIte,Nat.reduceLT,Nat.reduceEqDiff,Nat.reduceAdd,Nat.reduceLeDiff,b1,b2,b3,c1,ptr_nil,hs,e2,sub_mp,L1,L2,k1,k2,k3,ks,sub_vl,hrec]
    exact finish_flat rfl ((Hp.start hg1).mono (by omega))
end
noncomputable def B4 (n s m N : Nat) (t : Tm) (g : Hps) : Hps := (n + 3,.row 1 [.mp m]) :: (n + 2,.row 1 [.int .i64 (N : Nat)]) :: (n + 1,(Ob.row 6 [.agg [.int .i64 (t).form,.int .i64 (t).n,.bool (t).hid,.str (t).name,slD 2 encL (t).levels,slD 6 encT (t).kids]])) :: (n,.row 1 [.ptr s 0 0]) :: g
noncomputable def fR (n : Nat) : D := .fn 113 [] [.ptr n 0 0,.ptr (n + 2) 0 0,.ptr (n + 3) 0 0]
noncomputable def B8 (n s m N : Nat) (t : Tm) (g : Hps) : Hps := (n + 20,(Ob.row 6 [.agg [.int .i64 (t).form,.int .i64 (t).n,.bool (t).hid,.str (t).name,slD 2 encL (t).levels,slD 6 encT (t).kids]])) :: (n + 14,(Ob.row 6 [.agg [.int .i64 (t).form,.int .i64 (t).n,.bool (t).hid,.str (t).name,slD 2 encL (t).levels,slD 6 encT (t).kids]])) :: (n + 9,.row 1 [fR n]) :: (n + 8,(Ob.row 6 [.agg [.int .i64 (t).form,.int .i64 (t).n,.bool (t).hid,.str (t).name,slD 2 encL (t).levels,slD 6 encT (t).kids]])) :: B4 n s m N t g
theorem boxD_mp {n r : Nat} {h : Hps} : boxD n h 1 (.mp r) = .ok (.ptr n 0 0) n ((n,.row 1 [.mp r]) :: h) := eqOf rfl
theorem B4_hp {n s m N : Nat} (t : Tm) {g : Hps} (hg : Gd n g) (hs : s < n) (hm : m < n) : Hp n g (n + 4) (B4 n s m N t g) :=
  ((((Hp.start hg).cons (r := n) (m := n + 1) (Nat.le_refl _) (by omega) (fun k hk => lowO_one (low_ptr (by omega)))).box (r := n + 1) (m := n + 2) (k := 6) (by omega) (by omega) (flatTA t)).box (r := n + 2) (m := n + 3) (k := 1) (by omega) (by omega) rfl).cons (r := n + 3) (m := n + 4) (by omega) (by omega) (fun k hk => lowO_one (low_mp (by omega)))
theorem fR_low {n m : Nat} (hm : n + 4 ≤ m) : low m (fR n) := low_fn (fun d hd => by cases hd) (fun d hd => by
  rcases List.mem_cons.1 hd with rfl | hd
  · exact ble_f (by omega)
  rcases List.mem_cons.1 hd with rfl | hd
  · exact ble_f (by omega)
  · rw [List.mem_singleton.1 hd]; exact ble_f (by omega))
theorem B8_hp {n s m N : Nat} (t : Tm) {g : Hps} (hg : Gd n g) (hs : s < n) (hm : m < n) : Hp n g (n + 21) (B8 n s m N t g) :=
  (((((B4_hp t hg hs hm).box (r := n + 8) (m := n + 9) (k := 6) (by omega) (by omega) (flatTA t)).cons (r := n + 9) (m := n + 10) (by omega) (by omega) (fun k hk => lowO_one (fR_low (by omega)))).box (r := n + 14) (m := n + 15) (k := 6) (by omega) (by omega) (flatTA t)).box (r := n + 20) (m := n + 21) (k := 6) (by omega) (by omega) (flatTA t))
set_option maxHeartbeats 4000000 in
theorem pRe0 {n s m N : Nat} {h h1 : Hps} (hg : Gd n h) (hg1 : Gd n h1) (hs : s < n) (hm : m < n) (t : Tm) (hk : t.kids.el.length = 0) {b : Bool}
    (hc : t.form = 11 → callFn (LX (cF Try.prog)) (n + 30) (B8 n s m N t h) [.int .i64 t.n,.ptr n 0 0,.ptr (n + 2) 0 0,.ptr (n + 3) 0 0] (cF Try.prog 113) = .ok (.bool b) (n + 30) (B8 n s m N t h1)) (hc' : t.form ≠ 11 → b = false ∧ h1 = h) :
    callFn (LX (cF Try.prog)) n h [.ptr s 0 0,(D.agg [.int .i64 (t).form,.int .i64 (t).n,.bool (t).hid,.str (t).name,slD 2 encL (t).levels,slD 6 encT (t).kids]),.int .i64 (N : Nat),.mp m] (cF Try.prog 87) = .ok (.bool b) n h1 := by
  have hgn := hg n (Nat.le_refl _)
  have H4 := fun g (hg : Gd n g) => B4_hp (N := N) t hg hs hm
  have c2 : callFn (LX (cF Try.prog)) (n + 8) (B4 n s m N t h) [(D.agg [.int .i64 (t).form,.int .i64 (t).n,.bool (t).hid,.str (t).name,slD 2 encL (t).levels,slD 6 encT (t).kids]),fR n] (cF Try.prog 85) = .ok (.bool b) (n + 8) (B4 n s m N t h1) :=
    pMetas (fun k hk => (H4 h hg).good k (by omega)) (fun k hk => (H4 h1 hg1).good k (by omega)) t hk (isFn (fun q hq => fR_low (by omega))) (fun e => by
      show callX (cF Try.prog) (LX (cF Try.prog)) (n + 30) (B8 n s m N t h) (fR n) [.int .i64 t.n] = _
      unfold fR
      rw [callX_fn]
      exact hc e) (fun e => by obtain ⟨rfl,rfl⟩ := hc' e; exact ⟨rfl,rfl⟩)
  unfold B4 fR at c2
  rw [f87_eq]; unfold c87; rw [callFn_eq (by rfl)]
  simp (disch:=first|assumption|omega|(simp (disch:=first|assumption|omega) only [sB,Nat.reduceAdd,Nat.reduceLT,Nat.reduceLeDiff,Nat.reduceEqDiff,Nat.reduceMul,↓reduceIte];done)|fail) only [sA,↓reduceIte,Nat.reduceLT,Nat.reduceEqDiff,Nat.reduceAdd,Nat.reduceLeDiff,c2,boxD_mp,sub_mp]
  exact finish_flat rfl ((H4 h1 hg1).mono (by omega))
theorem B8_set {n s m N : Nat} {t : Tm} {g : Hps} {x : Ob} (hm : m < n) : setO (B8 n s m N t g) m x = B8 n s m N t (setO g m x) := by
  unfold B8 B4
  rw [setO_tl (by omega),setO_tl (by omega),setO_tl (by omega),setO_tl (by omega),setO_tl (by omega),setO_tl (by omega),setO_tl (by omega),setO_tl (by omega)]
theorem B8_get {n s m N r : Nat} {t : Tm} {g : Hps} (hr : r < n) : getO (B8 n s m N t g) r = getO g r := by
  unfold B8 B4
  rw [getO_tl (by omega),getO_tl (by omega),getO_tl (by omega),getO_tl (by omega),getO_tl (by omega),getO_tl (by omega),getO_tl (by omega),getO_tl (by omega)]
theorem B8_0 {n s m N : Nat} {t : Tm} {g : Hps} : getO (B8 n s m N t g) n = .row 1 [.ptr s 0 0] ∧ getO (B8 n s m N t g) (n + 2) = .row 1 [.int .i64 (N : Nat)] ∧ getO (B8 n s m N t g) (n + 3) = .row 1 [.mp m] := by
  unfold B8 B4
  refine ⟨?_,?_,?_⟩
  · rw [getO_tl (by omega),getO_tl (by omega),getO_tl (by omega),getO_tl (by omega),getO_tl (by omega),getO_tl (by omega),getO_tl (by omega),getO_hd]
  · rw [getO_tl (by omega),getO_tl (by omega),getO_tl (by omega),getO_tl (by omega),getO_tl (by omega),getO_hd]
  · rw [getO_tl (by omega),getO_tl (by omega),getO_tl (by omega),getO_tl (by omega),getO_hd]
theorem Sto.b8 {n s m N o a : Nat} {t : Tm} {h : Hps} {xs : List Nat} {ws : Nat → Nat} {V : Nat → Tm} (S : Sto h s o xs ws V a) (hg : Gd n h) (hs : s < n) (hm : m < n) : Sto (B8 n s m N t h) s o xs ws V a := by
  unfold B8 B4
  have g1 : Gd (n + 1) ((n,.row 1 [.ptr s 0 0]) :: h) := fun k hk => ((Hp.start hg).cons (r := n) (m := n + 1) (o := .row 1 [.ptr s 0 0]) (Nat.le_refl _) (by omega) (fun k hk => lowO_one (low_ptr (by omega)))).good k hk
  have g4 : Gd (n + 4) (B4 n s m N t h) := fun k hk => (B4_hp t hg hs hm).good k hk
  have g8 : Gd (n + 9) ((n + 8,(Ob.row 6 [.agg [.int .i64 (t).form,.int .i64 (t).n,.bool (t).hid,.str (t).name,slD 2 encL (t).levels,slD 6 encT (t).kids]])) :: B4 n s m N t h) := by rw [gd_tm (by omega)]; exact g4.mono (by omega)
  have g9 : Gd (n + 14) ((n + 9,.row 1 [fR n]) :: (n + 8,(Ob.row 6 [.agg [.int .i64 (t).form,.int .i64 (t).n,.bool (t).hid,.str (t).name,slD 2 encL (t).levels,slD 6 encT (t).kids]])) :: B4 n s m N t h) := fun k hk => good_cons.2 ⟨by omega,lowO_one (fR_low (by omega)),g8 k (by omega)⟩
  have g2 : Gd (n + 2) ((n + 1,(Ob.row 6 [.agg [.int .i64 (t).form,.int .i64 (t).n,.bool (t).hid,.str (t).name,slD 2 encL (t).levels,slD 6 encT (t).kids]])) :: (n,.row 1 [.ptr s 0 0]) :: h) := by rw [gd_tm (by omega)]; exact g1.mono (by omega)
  have g3 : Gd (n + 3) ((n + 2,.row 1 [.int .i64 (N : Nat)]) :: (n + 1,(Ob.row 6 [.agg [.int .i64 (t).form,.int .i64 (t).n,.bool (t).hid,.str (t).name,slD 2 encL (t).levels,slD 6 encT (t).kids]])) :: (n,.row 1 [.ptr s 0 0]) :: h) := fun k hk => good_cons.2 ⟨by omega,lowO_one (low_flat rfl),g2 k (by omega)⟩
  exact (((((((S.cons hg (Nat.le_refl _)).cons g1 (by omega)).cons g2 (by omega)).cons g3 (by omega)).cons g4 (by omega)).cons g8 (by omega)).cons g9 (by omega)).cons (n := n + 15) (by rw [gd_tm (by omega)]; exact g9.mono (by omega)) (by omega)
set_option maxHeartbeats 4000000 in
theorem pReach {s o a m : Nat} {xs : List Nat} {ws : Nat → Nat} {V : Nat → Tm} (ha : a < xs.length) (hV : ∀ i,i < a → V i = metaT ((i + 1 : Nat) : Int)) (hmo : m ≠ o) : ∀ (j k : Nat),k + j = a → ∀ (n : Nat) (h : Hps) (l : List Int),Gd n h → Sto h s o xs ws V a → getO h m = mapO l → (∀ p,p ∈ l → p < (k : Int)) →
    ∃ l',callFn (LX (cF Try.prog)) n h [.ptr s 0 0,(D.agg [.int .i64 (metaT ((k : Nat) : Int)).form,.int .i64 (metaT ((k : Nat) : Int)).n,.bool (metaT ((k : Nat) : Int)).hid,.str (metaT ((k : Nat) : Int)).name,slD 2 encL (metaT ((k : Nat) : Int)).levels,slD 6 encT (metaT ((k : Nat) : Int)).kids]),.int .i64 (a : Nat),.mp m] (cF Try.prog 87) = .ok (.bool true) n (setO h m (mapO l')) := by
  intro j
  induction j with
  | zero =>
    intro k hk n h l hg S hm hl
    have hgn := hg n (Nat.le_refl _)
    have nm : getO h m ≠ .none := by rw [hm]; exact fun e => by cases e
    have hmn : m < n := getO_low hgn nm
    obtain ⟨lD,s1,_⟩ := S.st
    have hsn : s < n := getO_low hgn (by rw [s1]; simp)
    refine ⟨l,?_⟩
    rw [setO_id hm (fun e => by cases e)]
    obtain ⟨b1,b2,b3⟩ := B8_0 (n := n) (s := s) (m := m) (N := a) (t := metaT ((k : Nat) : Int)) (g := h)
    exact pRe0 hg hg hsn hmn (metaT ((k : Nat) : Int)) rfl (fun _ => (pR1 (fun q hq => (B8_hp _ hg hsn hmn).good q (by omega)) (S.b8 hg hsn hmn) (by omega) b1 b2 b3).1 (by omega)) (fun e => absurd rfl e)
  | succ j ih =>
    intro k hk n h l hg S hm hl
    have hgn := hg n (Nat.le_refl _)
    have nm : getO h m ≠ .none := by rw [hm]; exact fun e => by cases e
    have hmn : m < n := getO_low hgn nm
    obtain ⟨lD,s1,_⟩ := S.st
    have hsn : s < n := getO_low hgn (by rw [s1]; simp)
    obtain ⟨b1,b2,b3⟩ := B8_0 (n := n) (s := s) (m := m) (N := a) (t := metaT ((k : Nat) : Int)) (g := h)
    have g1 : ∀ l,Gd n (setO h m (mapO l)) := fun l q hq => good_set (hg q hq) (map_low l)
    have S1 : Sto (setO h m (mapO (l ++ [(k : Int)]))) s o xs ws V a := S.set (.inr ⟨⟨_,hm⟩,hmo⟩)
    obtain ⟨l',e⟩ := ih (k + 1) (by omega) (n + 30 + 7696581394464) (B8 n s m a (metaT ((k : Nat) : Int)) (setO h m (mapO (l ++ [(k : Int)])))) (l ++ [(k : Int)])
      (fun q hq => (B8_hp _ (g1 _) hsn hmn).good q (by omega)) (S1.b8 (g1 _) hsn hmn) (by rw [B8_get hmn]; exact getO_setO_same nm) (fun p hp => by
        rcases List.mem_append.1 hp with hp | hp
        · have := hl p hp; omega
        · rw [List.mem_singleton.1 hp]; omega)
    rw [B8_set hmn,setO_set] at e
    refine ⟨l',pRe0 hg (g1 l') hsn hmn (metaT ((k : Nat) : Int)) rfl (fun _ => ?_) (fun e => absurd rfl e)⟩
    refine (pR1 (fun q hq => (B8_hp _ hg hsn hmn).good q (by omega)) (S.b8 hg hsn hmn) (by omega) b1 b2 b3).2.2 (by omega) (by omega) l (fun p hp => by have := hl p hp; omega) (by rw [B8_get hmn]; exact hm) true _ (fun q hq => (B8_hp _ (g1 l') hsn hmn).good q (by omega)) ?_
    rw [B8_set hmn,hV k (by omega)]
    exact e
theorem pReachF {s o a m N k : Nat} {xs : List Nat} {ws : Nat → Nat} {V : Nat → Tm} {n : Nat} {h : Hps} (hg : Gd n h) (S : Sto h s o xs ws V a) (hk : k < xs.length) (hN : k ≠ N) (ha : a ≤ k) (hm : m < n) :
    callFn (LX (cF Try.prog)) n h [.ptr s 0 0,(D.agg [.int .i64 (metaT ((k : Nat) : Int)).form,.int .i64 (metaT ((k : Nat) : Int)).n,.bool (metaT ((k : Nat) : Int)).hid,.str (metaT ((k : Nat) : Int)).name,slD 2 encL (metaT ((k : Nat) : Int)).levels,slD 6 encT (metaT ((k : Nat) : Int)).kids]),.int .i64 (N : Nat),.mp m] (cF Try.prog 87) = .ok (.bool false) n h := by
  have hgn := hg n (Nat.le_refl _)
  obtain ⟨lD,s1,_⟩ := S.st
  have hsn : s < n := getO_low hgn (by rw [s1]; simp)
  obtain ⟨b1,b2,b3⟩ := B8_0 (n := n) (s := s) (m := m) (N := N) (t := metaT ((k : Nat) : Int)) (g := h)
  exact pRe0 hg hg hsn hm (metaT ((k : Nat) : Int)) rfl (fun _ => (pR1 (fun q hq => (B8_hp _ hg hsn hm).good q (by omega)) (S.b8 hg hsn hm) hk b1 b2 b3).2.1 hN ha) (fun e => absurd rfl e)
theorem pReachC {s m N : Nat} {n : Nat} {h : Hps} (hg : Gd n h) (hs : s < n) (hm : m < n) :
    callFn (LX (cF Try.prog)) n h [.ptr s 0 0,(D.agg [.int .i64 (conT).form,.int .i64 (conT).n,.bool (conT).hid,.str (conT).name,slD 2 encL (conT).levels,slD 6 encT (conT).kids]),.int .i64 (N : Nat),.mp m] (cF Try.prog 87) = .ok (.bool false) n h :=
  pRe0 hg hg hs hm conT rfl (fun e => by exact absurd e (by decide)) (fun _ => ⟨rfl,rfl⟩)
end Go.Proofs.Ytdijijblccmfbaa
set_option linter.unusedSimpArgs false
set_option linter.unusedVariables false
namespace Go.Proofs.Ytdijijblccmfbaa
open Go

def appT : Tm := .mk 5 0 false [] (Sl.app []) false true [conT,metaT 0] []
theorem zz01 : (0 : Int) + 1 = 1 := eqOf rfl
theorem zz12 : (1 : Int) + 1 = 2 := eqOf rfl
noncomputable def A2b (n : Nat) (g : Hps) : Hps := (n + 15,(Ob.row 6 [.agg [.int .i64 (conT).form,.int .i64 (conT).n,.bool (conT).hid,.str (conT).name,slD 2 encL (conT).levels,slD 6 encT (conT).kids]])) :: (n,(Ob.row 6 [.agg [.int .i64 (appT).form,.int .i64 (appT).n,.bool (appT).hid,.str (appT).name,slD 2 encL (appT).levels,slD 6 encT (appT).kids]])) :: g
noncomputable def A3b (n : Nat) (g : Hps) : Hps := (n + 8796093022232,(Ob.row 6 [.agg [.int .i64 (metaT 0).form,.int .i64 (metaT 0).n,.bool (metaT 0).hid,.str (metaT 0).name,slD 2 encL (metaT 0).levels,slD 6 encT (metaT 0).kids]])) :: A2b n g
noncomputable def A5 (n : Nat) (g : Hps) : Hps := (n + 16492674416674,(Ob.row 6 [.agg [.int .i64 (metaT 0).form,.int .i64 (metaT 0).n,.bool (metaT 0).hid,.str (metaT 0).name,slD 2 encL (metaT 0).levels,slD 6 encT (metaT 0).kids]])) :: (n + 16492674416668,(Ob.row 6 [.agg [.int .i64 (metaT 0).form,.int .i64 (metaT 0).n,.bool (metaT 0).hid,.str (metaT 0).name,slD 2 encL (metaT 0).levels,slD 6 encT (metaT 0).kids]])) :: A3b n g
theorem A3_hp {n : Nat} {g : Hps} (hg : Gd n g) : Hp n g (n + 8796093022233) (A3b n g) := (((Hp.start hg).box (r := n) (m := n + 1) (k := 6) (Nat.le_refl _) (by omega) (flatTA appT)).box (r := n + 15) (m := n + 16) (k := 6) (by omega) (by omega) (flatTA conT)).box (r := n + 8796093022232) (m := n + 8796093022233) (k := 6) (by omega) (by omega) (flatTA (metaT 0))
set_option maxHeartbeats 8000000 in
theorem pAnyA {n : Nat} {h h1 : Hps} (hg : Gd n h) (hg1 : Gd n h1) {q : Nat} {f : D} (hf : IsFn n f) (hb : getO h q = .row 1 [f]) {b : Bool} (hc : callX (cF Try.prog) (LX (cF Try.prog)) (n + 16492674416684) (A5 n h) f [.int .i64 0] = .ok (.bool b) (n + 16492674416684) (A5 n h1)) :
    callFn (LX (cF Try.prog)) n h [(D.agg [.int .i64 (appT).form,.int .i64 (appT).n,.bool (appT).hid,.str (appT).name,slD 2 encL (appT).levels,slD 6 encT (appT).kids]),.int .i64 0,.fn 112 [] [.ptr q 0 0]] (cF Try.prog 106) = .ok (.bool b) n h1 := by
  have hgn := hg n (Nat.le_refl _)
  have G1 : ∀ m,n + 1 ≤ m → Gd m ((n,(Ob.row 6 [.agg [.int .i64 (appT).form,.int .i64 (appT).n,.bool (appT).hid,.str (appT).name,slD 2 encL (appT).levels,slD 6 encT (appT).kids]])) :: h) := fun m hm => by rw [gd_tm (by omega)]; exact hg.mono (by omega)
  have hf2 : ∀ m,n ≤ m → IsFn m f := fun m hm => ⟨hf.sub,hf.ok,hf.box,fun k hk => hf.low k (by omega)⟩
  have c0 : ∀ m,n + 1 ≤ m → callFn (LX (cF Try.prog)) m ((n,(Ob.row 6 [.agg [.int .i64 (appT).form,.int .i64 (appT).n,.bool (appT).hid,.str (appT).name,slD 2 encL (appT).levels,slD 6 encT (appT).kids]])) :: h) [(D.agg [.int .i64 (appT).form,.int .i64 (appT).n,.bool (appT).hid,.str (appT).name,slD 2 encL (appT).levels,slD 6 encT (appT).kids]),.int .i64 0,.ptr q 0 0] (cF Try.prog 112) = .ok (.bool false) m ((n,(Ob.row 6 [.agg [.int .i64 (appT).form,.int .i64 (appT).n,.bool (appT).hid,.str (appT).name,slD 2 encL (appT).levels,slD 6 encT (appT).kids]])) :: h) := fun m hm => pM1 (G1 m hm) (G1 m hm) appT 0 (hf2 m (by omega)) (by have := getO_low hgn (show getO h q ≠ .none by rw [hb]; simp); rw [getO_tl (by omega)]; exact hb) (fun e => absurd e (by decide)) (fun _ => ⟨rfl,rfl⟩)
  have e0 : appT.kids.el.length = 2 := rfl
  rw [f106_eq]; unfold c106; rw [callFn_eq (by rfl)]
  have u0 : ∀ m,callFn (LX (cF Try.prog)) m [] [.int .i64 appT.form,.int .i64 0,.int .i64 0] (cF Try.prog 119) = .ok (.int .i64 0) m [] := fun m => pUnder m [] (fun _ _ => good_nil) appT.form 0 0 (by decide)
  have u1 : ∀ m,callFn (LX (cF Try.prog)) m [] [.int .i64 appT.form,.int .i64 1,.int .i64 0] (cF Try.prog 119) = .ok (.int .i64 0) m [] := fun m => pUnder m [] (fun _ _ => good_nil) appT.form 1 0 (by decide)
  have hky : ∀ r m,n + 1 ≤ r → r < m → keysFrom m ((r,(Ob.row 6 [.agg [.int .i64 (conT).form,.int .i64 (conT).n,.bool (conT).hid,.str (conT).name,slD 2 encL (conT).levels,slD 6 encT (conT).kids]])) :: (n,(Ob.row 6 [.agg [.int .i64 (appT).form,.int .i64 (appT).n,.bool (appT).hid,.str (appT).name,slD 2 encL (appT).levels,slD 6 encT (appT).kids]])) :: h) = [] := fun r m h1 h2 => keys_low (by
    have := G1 r h1
    have g2 : Gd m ((r,(Ob.row 6 [.agg [.int .i64 (conT).form,.int .i64 (conT).n,.bool (conT).hid,.str (conT).name,slD 2 encL (conT).levels,slD 6 encT (conT).kids]])) :: (n,(Ob.row 6 [.agg [.int .i64 (appT).form,.int .i64 (appT).n,.bool (appT).hid,.str (appT).name,slD 2 encL (appT).levels,slD 6 encT (appT).kids]])) :: h) := by rw [gd_tm (by omega)]; exact G1 m (by omega)
    exact g2 m (Nat.le_refl _))
  have hky2 : ∀ m,n + 8796093022233 ≤ m → keysFrom m (A3b n h) = [] := fun m h2 => keys_low ((A3_hp hg).good m h2)
  unfold A3b A2b at hky2
  have k0 : ∀ hi,encT (appT.kids.el[0]'hi) = (D.agg [.int .i64 (conT).form,.int .i64 (conT).n,.bool (conT).hid,.str (conT).name,slD 2 encL (conT).levels,slD 6 encT (conT).kids]) := fun _ => encT_eq _
  have k1 : ∀ hi,encT (appT.kids.el[1]'hi) = (D.agg [.int .i64 (metaT 0).form,.int .i64 (metaT 0).n,.bool (metaT 0).hid,.str (metaT 0).name,slD 2 encL (metaT 0).levels,slD 6 encT (metaT 0).kids]) := fun _ => encT_eq _
  have hq : q < n := getO_low hgn (by rw [hb]; simp)
  have G2 : ∀ m,n + 16 ≤ m → Gd m (A2b n h) := fun m hm => by unfold A2b; rw [gd_tm (by omega)]; exact G1 m (by omega)
  have c1 : callFn (LX (cF Try.prog)) (n + 7696581394451) (A2b n h) [(D.agg [.int .i64 (conT).form,.int .i64 (conT).n,.bool (conT).hid,.str (conT).name,slD 2 encL (conT).levels,slD 6 encT (conT).kids]),.int .i64 0,.fn 112 [] [.ptr q 0 0]] (cF Try.prog 106) = .ok (.bool false) (n + 7696581394451) (A2b n h) := by
    refine pAny0 (G2 _ (by omega)) (G2 _ (by omega)) conT rfl 0 ?_
    rw [callX_fn]
    refine pM1 (f := f) (by rw [gd_tm (by omega)]; exact G2 _ (by omega)) (by rw [gd_tm (by omega)]; exact G2 _ (by omega)) conT 0 (hf2 _ (by omega)) ?_ (fun e => absurd e (by decide)) (fun _ => ⟨rfl,rfl⟩)
    unfold A2b
    rw [getO_tl (by omega),getO_tl (by omega),getO_tl (by omega)]; exact hb
  have G3 : ∀ g,Gd n g → ∀ m,n + 8796093022233 ≤ m → Gd m (A3b n g) := fun g hg m hm k hk => (A3_hp hg).good k (by omega)
  have c2 : callFn (LX (cF Try.prog)) (n + 16492674416668) (A3b n h) [(D.agg [.int .i64 (metaT 0).form,.int .i64 (metaT 0).n,.bool (metaT 0).hid,.str (metaT 0).name,slD 2 encL (metaT 0).levels,slD 6 encT (metaT 0).kids]),.int .i64 0,.fn 112 [] [.ptr q 0 0]] (cF Try.prog 106) = .ok (.bool b) (n + 16492674416668) (A3b n h1) := by
    refine pAny0 (G3 h hg _ (by omega)) (G3 h1 hg1 _ (by omega)) (metaT 0) rfl 0 ?_
    rw [callX_fn]
    refine pM1 (f := f) (by rw [gd_tm (by omega)]; exact G3 h hg _ (by omega)) (by rw [gd_tm (by omega)]; exact G3 h1 hg1 _ (by omega)) (metaT 0) 0 (hf2 _ (by omega)) ?_ (fun _ => hc) (fun e => absurd rfl e)
    unfold A3b A2b
    rw [getO_tl (by omega),getO_tl (by omega),getO_tl (by omega),getO_tl (by omega)]; exact hb
  unfold A2b at c1
  unfold A3b A2b at c2
  have H3 := fun m hm => ((A3_hp hg1).mono (show n + 8796093022233 ≤ m from hm))
  unfold A3b A2b at H3
  cases b with
  | true =>
    simp (disch:=first|assumption|omega|(simp (disch:=first|assumption|omega) only [sB,Nat.reduceAdd,Nat.reduceLT,Nat.reduceLeDiff,Nat.reduceEqDiff,Nat.reduceMul,↓reduceIte];done)|fail) only [sA,↓reduceIte,Nat.reduceLT,Nat.reduceEqDiff,Nat.reduceAdd,Nat.reduceLeDiff,c0,callX_fn]
    rw [LX_loop]
    unfold l106_0
    simp (disch:=first|assumption|omega|(simp (disch:=first|assumption|omega) only [sB,Nat.reduceAdd,Nat.reduceLT,Nat.reduceLeDiff,Nat.reduceEqDiff,Nat.reduceMul,↓reduceIte,e0];done)|fail) only [sA,↓reduceIte,Nat.reduceLT,Nat.reduceEqDiff,Nat.reduceAdd,Nat.reduceLeDiff,e0,k0,u0,hky,c1,zz01,e0]
    rw [LX_loop]
    simp (disch:=first|assumption|omega|(simp (disch:=first|assumption|omega) only [sB,Nat.reduceAdd,Nat.reduceLT,Nat.reduceLeDiff,Nat.reduceEqDiff,Nat.reduceMul,↓reduceIte,e0];done)|fail) only [sA,↓reduceIte,Nat.reduceLT,Nat.reduceEqDiff,Nat.reduceAdd,Nat.reduceLeDiff,e0,k1,u1,hky2,c2,zz12,e0]
    refine finish_flat (d := .bool _) rfl (H3 _ ?_)
    omega
  | false =>
    simp (disch:=first|assumption|omega|(simp (disch:=first|assumption|omega) only [sB,Nat.reduceAdd,Nat.reduceLT,Nat.reduceLeDiff,Nat.reduceEqDiff,Nat.reduceMul,↓reduceIte];done)|fail) only [sA,↓reduceIte,Nat.reduceLT,Nat.reduceEqDiff,Nat.reduceAdd,Nat.reduceLeDiff,c0,callX_fn]
    rw [LX_loop]
    unfold l106_0
    simp (disch:=first|assumption|omega|(simp (disch:=first|assumption|omega) only [sB,Nat.reduceAdd,Nat.reduceLT,Nat.reduceLeDiff,Nat.reduceEqDiff,Nat.reduceMul,↓reduceIte,e0];done)|fail) only [sA,↓reduceIte,Nat.reduceLT,Nat.reduceEqDiff,Nat.reduceAdd,Nat.reduceLeDiff,e0,k0,u0,hky,c1,zz01,e0]
    rw [LX_loop]
    simp (disch:=first|assumption|omega|(simp (disch:=first|assumption|omega) only [sB,Nat.reduceAdd,Nat.reduceLT,Nat.reduceLeDiff,Nat.reduceEqDiff,Nat.reduceMul,↓reduceIte,e0];done)|fail) only [sA,↓reduceIte,Nat.reduceLT,Nat.reduceEqDiff,Nat.reduceAdd,Nat.reduceLeDiff,e0,k1,u1,hky2,c2,zz12,e0]
    rw [LX_loop]
    simp (disch:=first|assumption|omega|(simp (disch:=first|assumption|omega) only [sB,Nat.reduceAdd,Nat.reduceLT,Nat.reduceLeDiff,Nat.reduceEqDiff,Nat.reduceMul,↓reduceIte];done)|fail) only [sA,↓reduceIte,Nat.reduceLT,Nat.reduceEqDiff,Nat.reduceAdd,Nat.reduceLeDiff,e0]
    refine finish_flat (d := .bool _) rfl (H3 _ ?_)
    omega
theorem A3_gd {n : Nat} {g : Hps} (hg : Gd n g) : ∀ m,n + 8796093022233 ≤ m → Gd m (A3b n g) := fun m hm k hk => (A3_hp hg).good k (by omega)
theorem A5_gd {n : Nat} {g : Hps} (hg : Gd n g) : ∀ m,n + 16492674416675 ≤ m → Gd m (A5 n g) := fun m hm => by
  unfold A5
  rw [gd_tm (by omega),gd_tm (by omega)]
  exact A3_gd hg m (by omega)
theorem A5_get {n r : Nat} {g : Hps} (hr : r < n) : getO (A5 n g) r = getO g r := by
  unfold A5 A3b A2b
  rw [getO_tl (by omega),getO_tl (by omega),getO_tl (by omega),getO_tl (by omega),getO_tl (by omega)]
theorem A5_set {n r : Nat} {g : Hps} {x : Ob} (hr : r < n) : setO (A5 n g) r x = A5 n (setO g r x) := by
  unfold A5 A3b A2b
  rw [setO_tl (by omega),setO_tl (by omega),setO_tl (by omega),setO_tl (by omega),setO_tl (by omega)]
theorem Sto.a5 {n s o a : Nat} {h : Hps} {xs : List Nat} {ws : Nat → Nat} {V : Nat → Tm} (S : Sto h s o xs ws V a) (hg : Gd n h) : Sto (A5 n h) s o xs ws V a := by
  have g1 : Gd (n + 1) ((n,(Ob.row 6 [.agg [.int .i64 (appT).form,.int .i64 (appT).n,.bool (appT).hid,.str (appT).name,slD 2 encL (appT).levels,slD 6 encT (appT).kids]])) :: h) := by rw [gd_tm (by omega)]; exact hg.mono (by omega)
  have g2 : Gd (n + 16) ((n + 15,(Ob.row 6 [.agg [.int .i64 (conT).form,.int .i64 (conT).n,.bool (conT).hid,.str (conT).name,slD 2 encL (conT).levels,slD 6 encT (conT).kids]])) :: (n,(Ob.row 6 [.agg [.int .i64 (appT).form,.int .i64 (appT).n,.bool (appT).hid,.str (appT).name,slD 2 encL (appT).levels,slD 6 encT (appT).kids]])) :: h) := by rw [gd_tm (by omega)]; exact g1.mono (by omega)
  have g3 : Gd (n + 8796093022233) (A3b n h) := A3_gd hg _ (by omega)
  unfold A5
  refine ((Sto.cons (n := n + 8796093022233) ?_ g3 (by omega)).cons (n := n + 16492674416669) (by rw [gd_tm (by omega)]; exact A3_gd hg _ (by omega)) (by omega))
  exact (((S.cons hg (Nat.le_refl _)).cons g1 (by omega)).cons g2 (by omega))
set_option maxHeartbeats 4000000 in
theorem pMetasA {n : Nat} {h h1 : Hps} (hg : Gd n h) (hg1 : Gd n h1) {f : D} (hf : IsFn n f) {b : Bool}
    (hc : callX (cF Try.prog) (LX (cF Try.prog)) (n + 16492674416690) (A5 (n + 6) ((n + 1,.row 1 [f]) :: (n,(Ob.row 6 [.agg [.int .i64 (appT).form,.int .i64 (appT).n,.bool (appT).hid,.str (appT).name,slD 2 encL (appT).levels,slD 6 encT (appT).kids]])) :: h)) f [.int .i64 0] = .ok (.bool b) (n + 16492674416690) (A5 (n + 6) ((n + 1,.row 1 [f]) :: (n,(Ob.row 6 [.agg [.int .i64 (appT).form,.int .i64 (appT).n,.bool (appT).hid,.str (appT).name,slD 2 encL (appT).levels,slD 6 encT (appT).kids]])) :: h1))) :
    callFn (LX (cF Try.prog)) n h [(D.agg [.int .i64 (appT).form,.int .i64 (appT).n,.bool (appT).hid,.str (appT).name,slD 2 encL (appT).levels,slD 6 encT (appT).kids]),f] (cF Try.prog 85) = .ok (.bool b) n h1 := by
  have hgn := hg n (Nat.le_refl _)
  have hs := hf.sub
  have ho := hf.ok
  have hx := hf.box
  have HH : ∀ g,Gd n g → Hp n g (n + 2) ((n + 1,.row 1 [f]) :: (n,(Ob.row 6 [.agg [.int .i64 (appT).form,.int .i64 (appT).n,.bool (appT).hid,.str (appT).name,slD 2 encL (appT).levels,slD 6 encT (appT).kids]])) :: g) := fun g hg => ((Hp.start hg).box (r := n) (m := n + 1) (k := 6) (Nat.le_refl _) (by omega) (flatTA appT)).cons (r := n + 1) (m := n + 2) (by omega) (by omega) (fun k hk => lowO_one (hf.low k (by omega)))
  have G2 : ∀ g,Gd n g → Gd (n + 6) ((n + 1,.row 1 [f]) :: (n,(Ob.row 6 [.agg [.int .i64 (appT).form,.int .i64 (appT).n,.bool (appT).hid,.str (appT).name,slD 2 encL (appT).levels,slD 6 encT (appT).kids]])) :: g) := fun g hg k hk => (HH g hg).good k (by omega)
  have c2 : callFn (LX (cF Try.prog)) (n + 6) ((n + 1,.row 1 [f]) :: (n,(Ob.row 6 [.agg [.int .i64 (appT).form,.int .i64 (appT).n,.bool (appT).hid,.str (appT).name,slD 2 encL (appT).levels,slD 6 encT (appT).kids]])) :: h) [(D.agg [.int .i64 (appT).form,.int .i64 (appT).n,.bool (appT).hid,.str (appT).name,slD 2 encL (appT).levels,slD 6 encT (appT).kids]),.int .i64 0,.fn 112 [] [.ptr (n + 1) 0 0]] (cF Try.prog 106) = .ok (.bool b) (n + 6) ((n + 1,.row 1 [f]) :: (n,(Ob.row 6 [.agg [.int .i64 (appT).form,.int .i64 (appT).n,.bool (appT).hid,.str (appT).name,slD 2 encL (appT).levels,slD 6 encT (appT).kids]])) :: h1) :=
    pAnyA (f := f) (G2 h hg) (G2 h1 hg1) ⟨hs,ho,hx,fun m hm => hf.low m (by omega)⟩ (by rw [getO_hd]) (by rw [show n + 6 + 16492674416684 = n + 16492674416690 by omega]; exact hc)
  rw [f85_eq]; unfold c85; rw [callFn_eq (by rfl)]
  simp (disch:=first|assumption|omega|(simp (disch:=first|assumption|omega) only [sB,Nat.reduceAdd,Nat.reduceLT,Nat.reduceLeDiff,Nat.reduceEqDiff,Nat.reduceMul,↓reduceIte];done)|fail) only [sA,↓reduceIte,Nat.reduceLT,Nat.reduceEqDiff,Nat.reduceAdd,Nat.reduceLeDiff,hx,c2]
  exact finish_flat rfl ((HH h1 hg1).mono (by omega))
noncomputable def W4 (n s m N : Nat) (g : Hps) : Hps := (n + 9,.row 1 [fR n]) :: (n + 8,(Ob.row 6 [.agg [.int .i64 (appT).form,.int .i64 (appT).n,.bool (appT).hid,.str (appT).name,slD 2 encL (appT).levels,slD 6 encT (appT).kids]])) :: B4 n s m N appT g
theorem W4_hp {n s m N : Nat} {g : Hps} (hg : Gd n g) (hs : s < n) (hm : m < n) : Hp n g (n + 10) (W4 n s m N g) :=
  ((B4_hp appT hg hs hm).box (r := n + 8) (m := n + 9) (k := 6) (by omega) (by omega) (flatTA appT)).cons (r := n + 9) (m := n + 10) (by omega) (by omega) (fun k hk => lowO_one (fR_low (by omega)))
theorem W4_get {n s m N r : Nat} {g : Hps} (hr : r < n) : getO (W4 n s m N g) r = getO g r := by
  unfold W4 B4
  rw [getO_tl (by omega),getO_tl (by omega),getO_tl (by omega),getO_tl (by omega),getO_tl (by omega),getO_tl (by omega)]
theorem W4_set {n s m N r : Nat} {g : Hps} {x : Ob} (hr : r < n) : setO (W4 n s m N g) r x = W4 n s m N (setO g r x) := by
  unfold W4 B4
  rw [setO_tl (by omega),setO_tl (by omega),setO_tl (by omega),setO_tl (by omega),setO_tl (by omega),setO_tl (by omega)]
theorem W4_0 {n s m N : Nat} {g : Hps} : getO (W4 n s m N g) n = .row 1 [.ptr s 0 0] ∧ getO (W4 n s m N g) (n + 2) = .row 1 [.int .i64 (N : Nat)] ∧ getO (W4 n s m N g) (n + 3) = .row 1 [.mp m] := by
  unfold W4 B4
  refine ⟨?_,?_,?_⟩
  · rw [getO_tl (by omega),getO_tl (by omega),getO_tl (by omega),getO_tl (by omega),getO_tl (by omega),getO_hd]
  · rw [getO_tl (by omega),getO_tl (by omega),getO_tl (by omega),getO_hd]
  · rw [getO_tl (by omega),getO_tl (by omega),getO_hd]
theorem Sto.w4 {n s m N o a : Nat} {h : Hps} {xs : List Nat} {ws : Nat → Nat} {V : Nat → Tm} (S : Sto h s o xs ws V a) (hg : Gd n h) (hs : s < n) (hm : m < n) : Sto (W4 n s m N h) s o xs ws V a := by
  unfold W4 B4
  have g1 : Gd (n + 1) ((n,.row 1 [.ptr s 0 0]) :: h) := fun k hk => ((Hp.start hg).cons (r := n) (m := n + 1) (o := .row 1 [.ptr s 0 0]) (Nat.le_refl _) (by omega) (fun k hk => lowO_one (low_ptr (by omega)))).good k hk
  have g4 : Gd (n + 4) (B4 n s m N appT h) := fun k hk => (B4_hp appT hg hs hm).good k hk
  have g8 : Gd (n + 9) ((n + 8,(Ob.row 6 [.agg [.int .i64 (appT).form,.int .i64 (appT).n,.bool (appT).hid,.str (appT).name,slD 2 encL (appT).levels,slD 6 encT (appT).kids]])) :: B4 n s m N appT h) := by rw [gd_tm (by omega)]; exact g4.mono (by omega)
  have g2 : Gd (n + 2) ((n + 1,(Ob.row 6 [.agg [.int .i64 (appT).form,.int .i64 (appT).n,.bool (appT).hid,.str (appT).name,slD 2 encL (appT).levels,slD 6 encT (appT).kids]])) :: (n,.row 1 [.ptr s 0 0]) :: h) := by rw [gd_tm (by omega)]; exact g1.mono (by omega)
  have g3 : Gd (n + 3) ((n + 2,.row 1 [.int .i64 (N : Nat)]) :: (n + 1,(Ob.row 6 [.agg [.int .i64 (appT).form,.int .i64 (appT).n,.bool (appT).hid,.str (appT).name,slD 2 encL (appT).levels,slD 6 encT (appT).kids]])) :: (n,.row 1 [.ptr s 0 0]) :: h) := fun k hk => good_cons.2 ⟨by omega,lowO_one (low_flat rfl),g2 k (by omega)⟩
  exact (((((S.cons hg (Nat.le_refl _)).cons g1 (by omega)).cons g2 (by omega)).cons g3 (by omega)).cons g4 (by omega)).cons g8 (by omega)
set_option maxHeartbeats 4000000 in
theorem pReA {n s m N : Nat} {h h1 : Hps} (hg : Gd n h) (hg1 : Gd n h1) (hs : s < n) (hm : m < n) {b : Bool}
    (hc : callFn (LX (cF Try.prog)) (n + 16492674416698) (A5 (n + 14) (W4 n s m N h)) [.int .i64 0,.ptr n 0 0,.ptr (n + 2) 0 0,.ptr (n + 3) 0 0] (cF Try.prog 113) = .ok (.bool b) (n + 16492674416698) (A5 (n + 14) (W4 n s m N h1))) :
    callFn (LX (cF Try.prog)) n h [.ptr s 0 0,(D.agg [.int .i64 (appT).form,.int .i64 (appT).n,.bool (appT).hid,.str (appT).name,slD 2 encL (appT).levels,slD 6 encT (appT).kids]),.int .i64 (N : Nat),.mp m] (cF Try.prog 87) = .ok (.bool b) n h1 := by
  have hgn := hg n (Nat.le_refl _)
  have H4 := fun g (hg : Gd n g) => B4_hp (N := N) appT hg hs hm
  have c2 : callFn (LX (cF Try.prog)) (n + 8) (B4 n s m N appT h) [(D.agg [.int .i64 (appT).form,.int .i64 (appT).n,.bool (appT).hid,.str (appT).name,slD 2 encL (appT).levels,slD 6 encT (appT).kids]),fR n] (cF Try.prog 85) = .ok (.bool b) (n + 8) (B4 n s m N appT h1) :=
    pMetasA (fun k hk => (H4 h hg).good k (by omega)) (fun k hk => (H4 h1 hg1).good k (by omega)) (isFn (fun q hq => fR_low (by omega))) (by
      rw [show n + 8 + 16492674416690 = n + 16492674416698 by omega]
      show callX (cF Try.prog) (LX (cF Try.prog)) (n + 16492674416698) (A5 (n + 14) (W4 n s m N h)) (fR n) [.int .i64 0] = _
      unfold fR
      rw [callX_fn]
      exact hc)
  unfold B4 fR at c2
  rw [f87_eq]; unfold c87; rw [callFn_eq (by rfl)]
  simp (disch:=first|assumption|omega|(simp (disch:=first|assumption|omega) only [sB,Nat.reduceAdd,Nat.reduceLT,Nat.reduceLeDiff,Nat.reduceEqDiff,Nat.reduceMul,↓reduceIte];done)|fail) only [sA,↓reduceIte,Nat.reduceLT,Nat.reduceEqDiff,Nat.reduceAdd,Nat.reduceLeDiff,c2,boxD_mp,sub_mp]
  exact finish_flat rfl ((H4 h1 hg1).mono (by omega))
set_option maxHeartbeats 4000000 in
theorem pReachA {s o a m : Nat} {xs : List Nat} {ws : Nat → Nat} {V : Nat → Tm} {n : Nat} {h : Hps} (ha : a < xs.length) (hV : ∀ i,i < a → V i = metaT ((i + 1 : Nat) : Int)) (hmo : m ≠ o) (hg : Gd n h) (S : Sto h s o xs ws V a) (hm : getO h m = mapO []) :
    ∃ l',callFn (LX (cF Try.prog)) n h [.ptr s 0 0,(D.agg [.int .i64 (appT).form,.int .i64 (appT).n,.bool (appT).hid,.str (appT).name,slD 2 encL (appT).levels,slD 6 encT (appT).kids]),.int .i64 (a : Nat),.mp m] (cF Try.prog 87) = .ok (.bool true) n (setO h m (mapO l')) := by
  have hgn := hg n (Nat.le_refl _)
  have nm : getO h m ≠ .none := by rw [hm]; exact fun e => by cases e
  have hmn : m < n := getO_low hgn nm
  obtain ⟨lD,s1,_⟩ := S.st
  have hsn : s < n := getO_low hgn (by rw [s1]; simp)
  have g1 : ∀ l,Gd n (setO h m (mapO l)) := fun l q hq => good_set (hg q hq) (map_low l)
  have gW : ∀ {g : Hps},Gd n g → Gd (n + 16492674416698) (A5 (n + 14) (W4 n s m a g)) := fun hg => A5_gd (fun k hk => (W4_hp hg hsn hmn).good k (by omega)) _ (by omega)
  have sW : ∀ {g : Hps},Gd n g → Sto g s o xs ws V a → Sto (A5 (n + 14) (W4 n s m a g)) s o xs ws V a := fun hg S => (S.w4 hg hsn hmn).a5 (fun k hk => (W4_hp hg hsn hmn).good k (by omega))
  have get0 : ∀ {g : Hps} {r : Nat},r < n + 14 → getO (A5 (n + 14) (W4 n s m a g)) r = getO (W4 n s m a g) r := fun hr => A5_get hr
  obtain ⟨b1,b2,b3⟩ := W4_0 (n := n) (s := s) (m := m) (N := a) (g := h)
  have P := fun (k : Nat) (hk : k < xs.length) => pR1 (k := k) (N := a) (q1 := n) (q2 := n + 2) (q3 := n + 3) (m := m) (gW hg) (sW hg S) hk (by rw [get0 (by omega)]; exact b1) (by rw [get0 (by omega)]; exact b2) (by rw [get0 (by omega)]; exact b3)
  by_cases h0 : a = 0
  · refine ⟨[],?_⟩
    rw [setO_id hm (fun e => by cases e)]
    exact pReA hg hg hsn hmn ((P 0 (by omega)).1 h0.symm)
  · have S1 : Sto (setO h m (mapO [((0 : Nat) : Int)])) s o xs ws V a := S.set (.inr ⟨⟨_,hm⟩,hmo⟩)
    obtain ⟨l',e⟩ := pReach ha hV hmo (a - 1) 1 (by omega) (n + 16492674416698 + 7696581394464) (A5 (n + 14) (W4 n s m a (setO h m (mapO [((0 : Nat) : Int)])))) [((0 : Nat) : Int)]
      ((gW (g1 _)).mono (by omega)) (sW (g1 _) S1) (by rw [get0 (by omega),W4_get hmn]; exact getO_setO_same nm) (fun p hp => by rw [List.mem_singleton.1 hp]; decide)
    rw [A5_set (by omega),W4_set hmn,setO_set] at e
    refine ⟨l',pReA hg (g1 l') hsn hmn ?_⟩
    refine (P 0 (by omega)).2.2 (by omega) (by omega) [] (fun p hp => by cases hp) (by rw [get0 (by omega),W4_get hmn]; exact hm) true _ (gW (g1 l')) ?_
    rw [List.nil_append,A5_set (by omega),W4_set hmn,hV 0 (by omega)]
    exact e
end Go.Proofs.Ytdijijblccmfbaa
