/- MetasChain: metas that are solved by one another, in a row, come to the last one, and a ring is refused. No condition. -/
import Derived.Test.YtdijijblccmfbaaZD
import Derived.Test.YtdijijblccmfbaaZE
import Derived.Test.YtdijijblccmfbaaTMC
import Derived.Test.YtdijijblccmfbaaTM1
import Derived.Test.YtdijijblccmfbaaTX
import Derived.Test.YtdijijblccmfbaaA38
set_option linter.unusedSimpArgs false
set_option linter.unusedVariables false
namespace Go.Proofs.Ytdijijblccmfbaa
open Go

section
variable (n : Nat) (h : Hps) (hg : Gd n h) (t : Tm) (hs : slimT t.abs = true) (hl : leafT t.abs = true) (hh : highT t.abs ≤ 500)
include hg hs hl hh
theorem pFreeR : callFn (LX (cF Try.prog)) n h [(D.agg [.int .i64 (t).form,.int .i64 (t).n,.bool (t).hid,.str (t).name,slD 2 encL (t).levels,slD 6 encT (t).kids])] (cF Try.prog 75) = .ok (.int .i64 (freeV t.abs 0)) n h := by
  have hgn := hg n (Nat.le_refl _)
  have H0 : Hp n h (n + 3) ((n + 2,.row 1 [.int .i64 0]) :: (n,(Ob.row 6 [.agg [.int .i64 (t).form,.int .i64 (t).n,.bool (t).hid,.str (t).name,slD 2 encL (t).levels,slD 6 encT (t).kids]])) :: h) := ((Hp.start hg).box (r := n) (m := n + 1) (Nat.le_refl _) (by omega) (flatTA t)).box (r := n + 2) (m := n + 3) (by omega) (by omega) rfl
  obtain ⟨h2,e2,U2⟩ := anyFree (r := n + 2) t hs hl 0 0 (Int.le_refl _) (by omega) (Int.le_refl _) (by omega) (n + 7) _ (fun k hk => H0.good k (by omega)) (by omega) getO_hd
  have H2 := Cnt.own H0 U2 (by omega) (by omega)
  have f0 := free_in t hs 0 (Int.le_refl _)
  rw [show max 0 (freeV t.abs 0) = freeV t.abs 0 by omega] at U2
  have w := U2.1
  rw [f75_eq]; unfold c75; rw [callFn_eq (by rfl)]
  simp (disch:=first|assumption|omega|(simp (disch:=first|assumption|omega) only [sB,Nat.reduceAdd,Nat.reduceLT,Nat.reduceLeDiff,Nat.reduceEqDiff,Nat.reduceMul,↓reduceIte];done)|fail) only [sA,↓reduceIte,Nat.reduceLT,Nat.reduceEqDiff,Nat.reduceAdd,Nat.reduceLeDiff,e2,w]
  exact finish_flat (d := .int .i64 (freeV t.abs 0)) rfl (H2.mono (by omega))
end
structure Shut (t : Tm) : Prop where
  sane : saneT t.abs = true
  check : checkT t.abs = 0
  slim : slimT t.abs = true
  leaf : leafT t.abs = true
  high : highT t.abs ≤ 500
  size : sizeT t.abs ≤ 100
  free : freeV t.abs 0 = 0
theorem shut_set : Shut set0 := ⟨by decide,by decide,by decide,by decide,by decide,by decide,by decide⟩
theorem shut_con : Shut conT := ⟨by decide,by decide,by decide,by decide,by decide,by decide,by decide⟩
theorem shut_app : Shut appT := ⟨by decide,by decide,by decide,by decide,by decide,by decide,by decide⟩
theorem shut_meta {i : Int} (hi : 0 ≤ i ∧ i ≤ 1000) : Shut (metaT i) := by
  have e : (metaT i).abs = .mk 11 i false [] [] [] := rfl
  have e1 : sizeT (metaT i).abs = 1 := by rw [e,sizeT_eq]; show 1 + sizeTs [] = 1; rw [sizeTs_nil]
  have e2 : highT (metaT i).abs = 1 := by rw [e,highT_eq]; show 1 + highTs [] = 1; rw [highTs_nil]
  have e3 : formedT (metaT i).abs = true := by
    rw [e,formedT_eq]
    show (partOk _ && ([] : List Trm).all formedT) = true
    rw [List.all_nil,Bool.and_true]
    unfold partOk
    show (decide (kidsN 11 = ((0 : Nat) : Int)) && (if (11 : Int) = 1 ∨ (11 : Int) = 11 then decide (0 ≤ i ∧ i ≤ 1073741824) else _)) = true
    rw [if_pos (.inr rfl),decide_eq_true (show 0 ≤ i ∧ i ≤ 1073741824 by omega)]
    rfl
  refine ⟨(sane_eq _).2 ⟨⟨by rw [e]; exact Nat.zero_le _,by rw [e]; exact Nat.zero_le _⟩,fun k hk => by rw [e] at hk; cases hk⟩,?_,?_,formed_leaf _ e3,by omega,by omega,?_⟩
  · unfold checkT fitsT
    rw [e1,e2,e3]; rfl
  · exact slim_of _ e3 ((few_eq _).2 ⟨by rw [e]; exact Nat.zero_le _,fun k hk => by rw [e] at hk; cases hk⟩)
  · rw [e,free_eq]
    show (if (11 : Int) = 1 then _ else freeVs 11 0 [] 0) = 0
    rw [if_neg (by decide),freeVs_nil]
theorem pClosed {t : Tm} (T : Shut t) {n : Nat} {h : Hps} (hg : Gd n h) : callFn (LX (cF Try.prog)) n h [(D.agg [.int .i64 (t).form,.int .i64 (t).n,.bool (t).hid,.str (t).name,slD 2 encL (t).levels,slD 6 encT (t).kids])] (cF Try.prog 82) = .ok (.int .i64 0) n h := by
  have hgn := hg n (Nat.le_refl _)
  have hG : ∀ m,n ≤ m → Gd m h := fun m hm => hg.mono hm
  have c1 : ∀ m h,Gd m h → callFn (LX (cF Try.prog)) m h [(D.agg [.int .i64 (t).form,.int .i64 (t).n,.bool (t).hid,.str (t).name,slD 2 encL (t).levels,slD 6 encT (t).kids])] (cF Try.prog 22) = .ok (.int .i64 0) m h := fun m h hg => by rw [pCheck t T.sane m h hg,T.check]
  have c2 : ∀ m h,Gd m h → callFn (LX (cF Try.prog)) m h [(D.agg [.int .i64 (t).form,.int .i64 (t).n,.bool (t).hid,.str (t).name,slD 2 encL (t).levels,slD 6 encT (t).kids])] (cF Try.prog 75) = .ok (.int .i64 0) m h := fun m h hg => by rw [pFreeR m h hg t T.slim T.leaf T.high,T.free]
  rw [f82_eq]; unfold c82; rw [callFn_eq (by rfl)]
  simp (disch:=first|assumption|omega|(simp (disch:=first|assumption|omega) only [sB,Nat.reduceAdd,Nat.reduceLT,Nat.reduceLeDiff,Nat.reduceEqDiff,Nat.reduceMul,↓reduceIte,hG,gd_tm];done)|fail) only [sA,↓reduceIte,Nat.reduceLT,Nat.reduceEqDiff,Nat.reduceAdd,Nat.reduceLeDiff,c1,c2,hG,gd_tm]
theorem copy0 {t : Tm} (hk : t.kids.el = []) : (runM gC t 0 1099511627776).1 = bareT t [] := by
  rw [runM_eq,if_neg (by decide)]
  show bareT t (runMs gC t.form 0 t.kids.el 0 _).1 = _
  rw [hk,runMs_nil]
theorem tr_mkf {e : Tr} {n f : Nat} {a c : List Opd} {h h' : Hps} : touchR e n (.mkfn f a c) h h' = [] := eqOf rfl
theorem bsl_fn {m s g : Nat} {i : Int} {h : Hps} : bslD m h 1 [.fn g [.agg [.ptr s 0 0,.int .i64 i]] []] = .ok (.ms 1 m 0 1 true) m ((m,.row 1 [.fn g [.agg [.ptr s 0 0,.int .i64 i]] []]) :: h) := eqOf rfl
theorem bsl_ptr {m r : Nat} {h : Hps} : bslD m h 1 [.ptr r 0 0] = .ok (.ms 1 m 0 1 true) m ((m,.row 1 [.ptr r 0 0]) :: h) := eqOf rfl
theorem view_o {q : Nat} {g : Hps} {d : D} : view 1 ((q,.row 1 [d]) :: g) (.ms 1 q 0 1 true) = .ok 1 [d] := by
  show (match getO ((q,.row 1 [d]) :: g) q with | .row _ es => _ | _ => _) = _
  rw [getO_hd]
  rfl
theorem app_fn {m : Nat} {g : Hps} {d : D} : appD m g 1 8 .nils (.ok 1 [d]) = .ok (.ms 1 m 0 1 false) m ((m,.row 1 [d]) :: g) := appD_nils (xt := []) (by decide)
theorem appR_ms {m lr y : Nat} {g : Hps} {xs : List Nat} (hx : xs.length < 1000) : appR m g 1 8 lr 0 xs.length false [.ptr y 0 0] (.row 1 (xs.map fun x => .ptr x 0 0)) = .ok (.ms 1 m 0 (xs.length + 1) false) m ((m,.row 1 ((xs ++ [y]).map fun x => .ptr x 0 0)) :: delO g lr) := by
  show ifR (Bool.and (Nat.beq 0 0) (Nat.beq xs.length (lenL (xs.map fun x => D.ptr x 0 0)))) (appR2 m g 1 8 lr (xs.map fun x => .ptr x 0 0) [.ptr y 0 0]) = _
  rw [lenL_eq,List.length_map,show Nat.beq xs.length xs.length = true from Nat.beq_refl _]
  show ifR (Nat.ble ((lenL (xs.map fun x => D.ptr x 0 0) + lenL [D.ptr y 0 0]) * 8) most) (.ok (.ms 1 m 0 (lenL (xs.map fun x => D.ptr x 0 0) + lenL [D.ptr y 0 0]) false) m ((m,.row 1 (appL (xs.map fun x => .ptr x 0 0) [.ptr y 0 0])) :: delO g lr)) = _
  rw [lenL_eq,lenL_eq,List.length_map,ble_iff,show most = 140737488355328 from rfl,decide_eq_true (by simp; omega),appL_eq,List.map_append]
  rfl
def opens (a k : Nat) : List Int := (List.range' a k).map fun (j : Nat) => (j : Int)
theorem opn_map {h : Hps} {s o : Nat} {xs : List Nat} {ws : Nat → Nat} {V : Nat → Tm} {a : Nat} (S : Sto h s o xs ws V a) : getO h o = mapO (opens a (xs.length - a)) := by
  rw [S.opn]
  unfold mapO opens
  rw [List.map_map,List.map_map]
  rfl
theorem mupd_g {i : Nat} {G : Hps} {o : Nat} {l : List Int} {k : Int} (hl : ∀ p,p ∈ l → p ≠ k) (hm : getO G o = mapO l) : mupdD i G (.int .i64) (.int .i64 k) (.int .i64 1) (.mp o) = .ok .junk i (setO G o (mapO (l ++ [k]))) := mupd_new hm hl
theorem finish_leak {n m : Nat} {h : Hps} {d : D} (hl : leak n h = true) : finishD n m h d = .ok d m h := by
  unfold finishD
  rw [hl,Bool.or_true]
theorem getO_mem {r : Nat} : ∀ {h : Hps},getO h r ≠ .none → (r,getO h r) ∈ h
  | [],e => absurd rfl e
  | (q,o) :: t,e => by
    by_cases hq : q = r
    · subst hq; rw [getO_hd]; exact List.mem_cons_self
    · rw [getO_tl hq] at e ⊢; exact List.mem_cons_of_mem _ (getO_mem e)
theorem leak_store {n s r k o : Nat} {h : Hps} (hs : s < n) (hr : n ≤ r) (e : getO h s = .row 2 [.agg [.ms 1 r 0 k false,.mp o]]) : leak n h = true := by
  cases hl : leak n h with
  | true => rfl
  | false =>
    have := leak_iff.1 hl _ (getO_mem (h := h) (r := s) (by rw [e]; simp)) hs
    rw [e] at this
    have e3 : Nat.ble n r = true := by rw [ble_iff,decide_eq_true hr]
    have h1 : hasR n 20 (.agg [.ms 1 r 0 k false,.mp o]) = Bool.not ([D.ms 1 r 0 k false,.mp o].all fun d => Bool.not (hasR n 19 d)) := by
      show Bool.not (allL _ _) = _
      rw [allL_eq]
      rfl
    have h2 : hasR n 19 (.ms 1 r 0 k false) = Nat.ble n r := rfl
    have h3 : obR1 n (.row 2 [.agg [.ms 1 r 0 k false,.mp o]]) = Bool.not ([D.agg [.ms 1 r 0 k false,.mp o]].all fun d => Bool.not (hasR n 20 d)) := by
      show Bool.not (allL _ _) = _
      rw [allL_eq]
    unfold lowO at this
    rw [h3,List.all_cons,List.all_nil,h1,List.all_cons,h2,e3] at this
    cases this
theorem low_ptrs {m : Nat} {xs : List Nat} (hx : ∀ x,x ∈ xs → x < m) : lowO m (.row 1 (xs.map fun x => .ptr x 0 0)) := lowO_row (fun d hd => by
  obtain ⟨x,h1,rfl⟩ := List.mem_map.1 hd
  exact low_ptr (hx x h1))
theorem low_store {m r k o : Nat} (hr : r < m) (ho : o < m) : lowO m (.row 2 [.agg [.ms 1 r 0 k false,.mp o]]) := lowO_one (low_agg (fun d hd => by
  rcases List.mem_cons.1 hd with rfl | hd
  · exact ble_f hr
  · rw [List.mem_singleton.1 hd]; exact ble_f ho))
theorem low_close {m g s : Nat} {i : Int} (hs : s < m) : low m (.fn g [.agg [.ptr s 0 0,.int .i64 i]] []) := low_fn (fun d hd => by
  rw [List.mem_singleton.1 hd]
  have e : hasR m 19 (.agg [.ptr s 0 0,.int .i64 i]) = Bool.not ([D.ptr s 0 0,.int .i64 i].all fun d => Bool.not (hasR m 18 d)) := by
    show Bool.not (allL _ _) = _
    rw [allL_eq]
    rfl
  have e2 : hasR m 18 (.ptr s 0 0) = Nat.ble m s := rfl
  rw [e,List.all_cons,e2,ble_f hs]; rfl) (fun d hd => by cases hd)
theorem low_pair {m s : Nat} {i : Int} (hs : s < m) : lowO m (.row 2 [.agg [.ptr s 0 0,.int .i64 i]]) := lowO_one (low_agg (fun d hd => by
  rcases List.mem_cons.1 hd with rfl | hd
  · exact ble_f hs
  · rw [List.mem_singleton.1 hd]; rfl))
theorem low_slot {m r : Nat} {v : Tm} {b : Bool} (hr : r < m) : lowO m (.row 14 [slotD v b (.ms 1 r 0 1 false)]) := lowO_one (low_agg (fun d hd => by
  have f1 : ∀ {α : Type} (k : Nat) (enc : α → D) (s : Sl α),hasR m 19 (slD k enc s) = false := fun k enc s => by rcases slD_isSl k enc s with ⟨h1,_⟩ | ⟨_,_,h1⟩ <;> rw [h1] <;> rfl
  simp only [List.mem_cons,List.not_mem_nil,or_false] at hd
  rcases hd with rfl | rfl | rfl | rfl | rfl | rfl | rfl | rfl | rfl | rfl | rfl | rfl | rfl | rfl | hf
  all_goals first | rfl | exact f1 _ _ _ | exact ble_f hr | exact hf.elim))
set_option maxHeartbeats 8000000 in
theorem fresh_end {n : Nat} {h : Hps} (hg : Gd n h) {s o lr : Nat} {lD : D} {xs : List Nat} {ws : Nat → Nat} {V : Nat → Tm} (S : Sto h s o xs ws V 0) (s1 : getO h s = .row 2 [.agg [lD,.mp o]]) (nsl : s ≠ lr) (nol : o ≠ lr) (n1 : ∀ i (hi : i < xs.length),xs[i] ≠ lr) (n2 : ∀ i,i < xs.length → ws i ≠ lr) {l : List Int} (hm : getO h o = mapO l) (hop : l ++ [((xs.length : Nat) : Int)] = opens 0 (xs.length + 1 - 0)) {d : D} {es : List D} (he : es = (xs ++ [n + 22]).map fun x => .ptr x 0 0) :
    ∃ n' h' x ws',finishD n (n + 13194139533364) ((n + 13194139533349,.row 1 es) :: (n + 13194139533348,.row 1 [.ptr (n + 22) 0 0]) :: (n + 8796093022237,.row 1 [.fn 83 [.agg [.ptr s 0 0,.int .i64 (xs.length : Nat)]] []]) :: (n + 7696581394461,.row 1 [.fn 83 [.agg [.ptr s 0 0,.int .i64 (xs.length : Nat)]] []]) :: (n + 27,.row 2 [.agg [.ptr s 0 0,.int .i64 (xs.length : Nat)]]) ::
      (n + 22,.row 14 [.agg [.int .i64 2,.int .i64 0,.bool false,.str [],slD 2 encL tyS,.nils,.int .i64 0,.int .i64 0,.bool false,.str [],.nils,.nils,.bool false,.ms 1 (n + 8796093022237) 0 1 false]]) :: (n + 1,.row 6 [.agg [.int .i64 11,.int .i64 (xs.length : Nat),.bool false,.str [],.nils,.nils]]) :: (n,(Ob.row 6 [.agg [.int .i64 (set0).form,.int .i64 (set0).n,.bool (set0).hid,.str (set0).name,slD 2 encL (set0).levels,slD 6 encT (set0).kids]])) ::
      setO (setO (delO h lr) s (.row 2 [.agg [.ms 1 (n + 13194139533349) 0 (xs.length + 1) false,.mp o]])) o (mapO (l ++ [((xs.length : Nat) : Int)]))) d = .ok d n' h' ∧ Gd n' h' ∧ n ≤ n' ∧ Sto h' s o (xs ++ [x]) ws' V 0 := by
  subst he
  have hgn := hg n (Nat.le_refl _)
  have hsn : s < n := getO_low hgn (by rw [s1]; simp)
  have hon : o < n := getO_low hgn (by rw [S.opn]; simp)
  have nos : o ≠ s := getO_ne (by rw [hm,s1]; exact fun e => by cases e)
  have d1 : getO (delO h lr) s = .row 2 [.agg [lD,.mp o]] := by rw [getO_delO,if_neg nsl]; exact s1
  have d2 : ∀ X,getO (setO (delO h lr) s X) s = X := fun X => getO_setO_same (by rw [d1]; simp)
  have d3 : ∀ X,getO (setO (delO h lr) s X) o = mapO l := fun X => by rw [getO_setO _ _ _ _ (by rw [d1]; simp),if_neg nos,getO_delO,if_neg nol]; exact hm
  have X0 : ∀ i (hi : i < xs.length),xs[i] < n := fun i hi => getO_low hgn (by rw [S.slot i hi]; simp)
  have b0 : ∀ {r : Nat} {kk : Nat} {es : List D},getO h r = .row kk es → r ≠ s → r ≠ lr → ∀ X Y,getO (setO (setO (delO h lr) s X) o Y) r = .row kk es := fun {r kk es} hr h1 h2 X Y => by
    rw [getO_setO _ _ _ _ (by rw [d3]; exact fun e => by cases e),if_neg (fun e => by subst e; rw [hm] at hr; cases hr),getO_setO _ _ _ _ (by rw [d1]; simp),if_neg h1,getO_delO,if_neg h2]; exact hr
  have bs : ∀ X Y,getO (setO (setO (delO h lr) s X) o Y) s = X := fun X Y => by
    rw [getO_setO _ _ _ _ (by rw [d3]; exact fun e => by cases e),if_neg nos.symm]; exact d2 X
  have bo : ∀ X Y,getO (setO (setO (delO h lr) s X) o Y) o = Y := fun X Y => getO_setO_same (by rw [d3]; exact fun e => by cases e)
  generalize hF : setO (setO (delO h lr) s (.row 2 [.agg [.ms 1 (n + 13194139533349) 0 (xs.length + 1) false,.mp o]])) o (mapO (l ++ [((xs.length : Nat) : Int)])) = g
  have gs : getO g s = .row 2 [.agg [.ms 1 (n + 13194139533349) 0 (xs.length + 1) false,.mp o]] := by rw [← hF]; exact bs _ _
  have go : getO g o = mapO (l ++ [((xs.length : Nat) : Int)]) := by rw [← hF]; exact bo _ _
  have gr : ∀ {r : Nat} {kk : Nat} {es : List D},getO h r = .row kk es → r ≠ s → r ≠ lr → getO g r = .row kk es := fun hr h1 h2 => by rw [← hF]; exact b0 hr h1 h2 _ _
  have gg : ∀ m,n + 13194139533350 ≤ m → GoodAt m g := fun m hm => by
    rw [← hF]
    exact good_set (good_set (good_del (hg m (by omega))) (low_store (by omega) (by omega))) (map_low _)
  have e8 : ∀ {F : Hps} {r : Nat} {x1 x2 x3 x4 x5 x6 x7 x8 : Ob},r < n → F = (n + 13194139533349,x1) :: (n + 13194139533348,x2) :: (n + 8796093022237,x3) :: (n + 7696581394461,x4) :: (n + 27,x5) :: (n + 22,x6) :: (n + 1,x7) :: (n,x8) :: g → getO F r = getO g r := fun hr e => by
    rw [e,getO_tl (by omega),getO_tl (by omega),getO_tl (by omega),getO_tl (by omega),getO_tl (by omega),getO_tl (by omega),getO_tl (by omega),getO_tl (by omega)]
  refine ⟨_,_,n + 22,fun i => if i < xs.length then ws i else n + 8796093022237,finish_leak (leak_store hsn (show n ≤ n + 13194139533349 by omega) ((e8 hsn rfl).trans gs)),?_,by omega,?_⟩
  · intro k hk
    refine good_cons.2 ⟨by omega,low_ptrs (fun x hx => ?_),good_cons.2 ⟨by omega,lowO_one (low_ptr (by omega)),good_cons.2 ⟨by omega,lowO_one (low_close (by omega)),good_cons.2 ⟨by omega,lowO_one (low_close (by omega)),good_cons.2 ⟨by omega,low_pair (by omega),good_cons.2 ⟨by omega,low_slot (v := zeroT) (by omega),good_cons.2 ⟨by omega,lowO_one (low_flat rfl),good_cons.2 ⟨by omega,lowO_one (low_flat (flatTA _)),gg k (by omega)⟩⟩⟩⟩⟩⟩⟩⟩
    rcases List.mem_append.1 hx with hx | hx
    · obtain ⟨i,hi,rfl⟩ := List.getElem_of_mem hx
      have := X0 i hi
      omega
    · rw [List.mem_singleton.1 hx]; omega
  · refine ⟨⟨_,(e8 hsn rfl).trans gs,.inr ⟨n + 13194139533349,by simp,by simp,getO_hd⟩⟩,fun i hi => ?_,fun i _ hi => ?_,?_,?_,S.val⟩
    · rw [List.length_append] at hi
      by_cases h1 : i < xs.length
      · rw [List.getElem_append_left h1,e8 (X0 i h1) rfl,if_neg (by omega),if_pos h1]
        have hs := S.slot i h1
        rw [if_neg (by omega)] at hs
        exact gr hs (getO_ne (by rw [hs,s1]; simp)) (n1 i h1)
      · obtain rfl : i = xs.length := by simp at hi; omega
        rw [List.getElem_append_right (Nat.le_refl _),if_neg (by omega),if_neg (by omega),S.val _ (Nat.zero_le _)]
        show getO _ ([n + 22][xs.length - xs.length]'_) = _
        have : ∀ hh,[n + 22][xs.length - xs.length]'hh = n + 22 := fun hh => by simp
        rw [this,getO_tl (by omega),getO_tl (by omega),getO_tl (by omega),getO_tl (by omega),getO_tl (by omega),getO_hd]
        rfl
    · rw [List.length_append] at hi
      by_cases h1 : i < xs.length
      · have hw := S.wait i (by omega) h1
        simp only [if_pos h1]
        have hwn : ws i < n := getO_low hgn (by rw [hw]; simp)
        rw [e8 hwn rfl]
        exact gr hw (getO_ne (by rw [hw,s1]; simp)) (n2 i h1)
      · obtain rfl : i = xs.length := by simp at hi; omega
        simp only [if_neg h1]
        rw [getO_tl (by omega),getO_tl (by omega),getO_hd]
    · rw [e8 hon rfl,go,List.length_append,hop]
      unfold mapO opens
      rw [List.map_map,List.map_map]
      rfl
    · refine List.nodup_append.2 ⟨S.dist,by simp,fun x hx y hy => ?_⟩
      rw [List.mem_singleton.1 hy]
      obtain ⟨i,hi,rfl⟩ := List.getElem_of_mem hx
      have := X0 i hi
      omega
set_option maxHeartbeats 8000000 in
theorem pFresh {n : Nat} {h : Hps} (hg : Gd n h) {s o : Nat} {xs : List Nat} {ws : Nat → Nat} {V : Nat → Tm} (S : Sto h s o xs ws V 0) (hx : xs.length < 500) :
    ∃ n' h' x ws',callFn (LX (cF Try.prog)) n h [.ptr s 0 0,(D.agg [.int .i64 (set0).form,.int .i64 (set0).n,.bool (set0).hid,.str (set0).name,slD 2 encL (set0).levels,slD 6 encT (set0).kids])] (cF Try.prog 46) = .ok (.tup [(D.agg [.int .i64 (metaT ((xs.length : Nat) : Int)).form,.int .i64 (metaT ((xs.length : Nat) : Int)).n,.bool (metaT ((xs.length : Nat) : Int)).hid,.str (metaT ((xs.length : Nat) : Int)).name,slD 2 encL (metaT ((xs.length : Nat) : Int)).levels,slD 6 encT (metaT ((xs.length : Nat) : Int)).kids]),.int .i64 0]) n' h' ∧ Gd n' h' ∧ n ≤ n' ∧ Sto h' s o (xs ++ [x]) ws' V 0 := by
  have hgn := hg n (Nat.le_refl _)
  have hG : ∀ m,n ≤ m → Gd m h := fun m hm => hg.mono hm
  have c1 : ∀ m h,Gd m h → callFn (LX (cF Try.prog)) m h [(D.agg [.int .i64 (set0).form,.int .i64 (set0).n,.bool (set0).hid,.str (set0).name,slD 2 encL (set0).levels,slD 6 encT (set0).kids])] (cF Try.prog 82) = .ok (.int .i64 0) m h := fun m h hg => pClosed shut_set hg
  have c2 : ∀ m h,Gd m h → callFn (LX (cF Try.prog)) m h [(D.agg [.int .i64 (set0).form,.int .i64 (set0).n,.bool (set0).hid,.str (set0).name,slD 2 encL (set0).levels,slD 6 encT (set0).kids])] (cF Try.prog 59) = .ok (.agg [.int .i64 2,.int .i64 0,.bool false,.str [],slD 2 encL tyS,.nils]) m h := fun m h hg => by
    rw [pCopy m h hg set0 shut_set.slim (by have := shut_set.size; omega) (by have := shut_set.high; omega),copy0 rfl,encT_eq]
    rfl
  obtain ⟨lD,s1,s2⟩ := S.st
  rcases s2 with ⟨rfl,rfl⟩ | ⟨lr,k1,rfl,k3⟩
  · have hsn : s < n := getO_low hgn (by rw [s1]; simp)
    have hon : o < n := getO_low hgn (by rw [S.opn]; simp)
    have hm : getO h o = mapO [] := opn_map S
    have del : delO h n = h := delO_out (fun p hp => by have := (hgn p hp).1; omega)
    have E := fresh_end hg S s1 (lr := n) (by omega) (by omega) (fun i hi => by cases hi) (fun i hi => by cases hi) hm rfl (d := .tup [(D.agg [.int .i64 (metaT 0).form,.int .i64 (metaT 0).n,.bool (metaT 0).hid,.str (metaT 0).name,slD 2 encL (metaT 0).levels,slD 6 encT (metaT 0).kids]),.int .i64 0]) rfl
    rw [del] at E
    have nos : o ≠ s := getO_ne (by rw [hm,s1]; exact fun e => by cases e)
    have d2 : ∀ X,getO (setO h s X) s = X := fun X => getO_setO_same (by rw [s1]; simp)
    have d3 : ∀ X,getO (setO h s X) o = mapO [] := fun X => by rw [getO_setO _ _ _ _ (by rw [s1]; simp),if_neg nos]; exact hm
    have M1 := fun (i : Nat) (G : Hps) (e : getO G o = mapO []) => mupd_g (i := i) (k := 0) (fun p hp => by cases hp) e
    have AP := fun (m : Nat) (g : Hps) (y : Nat) => app_fn (m := m) (g := g) (d := .ptr y 0 0)
    simp only [List.length_nil] at E ⊢
    rw [f46_eq]; unfold c46; rw [callFn_eq (by rfl)]
    simp (disch:=first|assumption|omega|(simp (disch:=first|assumption|omega) only [sB,Nat.reduceAdd,Nat.reduceLT,Nat.reduceLeDiff,Nat.reduceEqDiff,Nat.reduceMul,↓reduceIte,hG,gd_tm,gd_zt,getO_tl,d3];done)|fail) only [sA,↓reduceIte,Nat.reduceLT,Nat.reduceEqDiff,Nat.reduceAdd,Nat.reduceLeDiff,c1,s1,c2,tr_mkf,bsl_fn,bsl_ptr,view_o,app_fn,d2,M1,sub_mp,hG,gd_tm,gd_zt,getO_tl,d3]
    exact E
  · have hlr : lr < n := getO_low hgn (by rw [k3]; simp)
    have hsn : s < n := getO_low hgn (by rw [s1]; simp)
    have hon : o < n := getO_low hgn (by rw [S.opn]; simp)
    have q1 : ¬ ((xs.length : Nat) : Int) ≥ 500 := by omega
    have hm := opn_map S
    have hl : ∀ p,p ∈ (opens 0 (xs.length - 0)) → p ≠ ((xs.length : Nat) : Int) := fun p hp => by
      unfold opens at hp
      obtain ⟨j,hj,rfl⟩ := List.mem_map.1 hp
      have := List.mem_range'_1.1 hj
      omega
    have hop : opens 0 (xs.length - 0) ++ [((xs.length : Nat) : Int)] = opens 0 (xs.length + 1 - 0) := by
      unfold opens
      rw [Nat.sub_zero,Nat.sub_zero,List.range'_concat,List.map_append,Nat.zero_add,Nat.one_mul]
      rfl
    generalize hll : opens 0 (xs.length - 0) = l at hm hl hop
    have nsl : s ≠ lr := getO_ne (by rw [s1,k3]; simp)
    have nol : o ≠ lr := getO_ne (by rw [hm,k3]; exact fun e => by cases e)
    have nos : o ≠ s := getO_ne (by rw [hm,s1]; exact fun e => by cases e)
    have d1 : getO (delO h lr) s = .row 2 [.agg [.ms 1 lr 0 xs.length false,.mp o]] := by rw [getO_delO,if_neg nsl]; exact s1
    have d2 : ∀ X,getO (setO (delO h lr) s X) s = X := fun X => getO_setO_same (by rw [d1]; simp)
    have d3 : ∀ X,getO (setO (delO h lr) s X) o = mapO l := fun X => by rw [getO_setO _ _ _ _ (by rw [d1]; simp),if_neg nos,getO_delO,if_neg nol]; exact hm
    have AR := fun (m : Nat) (g : Hps) (y : Nat) => appR_ms (m := m) (lr := lr) (g := g) (y := y) (xs := xs) (by omega)
    have M1 := fun (i : Nat) (G : Hps) (e : getO G o = mapO l) => mupd_g (i := i) hl e
    rw [f46_eq]; unfold c46; rw [callFn_eq (by rfl)]
    simp (disch:=first|assumption|omega|(simp (disch:=first|assumption|omega) only [sB,Nat.reduceAdd,Nat.reduceLT,Nat.reduceLeDiff,Nat.reduceEqDiff,Nat.reduceMul,↓reduceIte,hG,gd_tm,gd_zt,getO_tl,d3];done)|fail) only [sA,↓reduceIte,Nat.reduceLT,Nat.reduceEqDiff,Nat.reduceAdd,Nat.reduceLeDiff,c1,s1,c2,q1,tr_mkf,bsl_fn,bsl_ptr,view_o,app_fn,k3,AR,d1,d2,delO_tl,M1,sub_mp,hG,gd_tm,gd_zt,getO_tl,d3]
    exact fresh_end hg S s1 nsl nol (fun i hi => getO_ne (by rw [S.slot i hi,k3]; simp)) (fun i hi => getO_ne (by
      rw [S.wait i (by omega) hi,k3]
      cases xs with
      | nil => exact absurd rfl k1
      | cons y ys => intro e; cases e)) hm hop rfl
end Go.Proofs.Ytdijijblccmfbaa
set_option linter.unusedSimpArgs false
set_option linter.unusedVariables false
namespace Go.Proofs.Ytdijijblccmfbaa
open Go

theorem nodup_at {l : List Nat} (hd : l.Nodup) {i j : Nat} (hi : i < l.length) (hj : j < l.length) (e : l[i] = l[j]) : i = j := by
  have P := List.pairwise_iff_getElem.1 hd
  rcases Nat.lt_trichotomy i j with h | h | h
  · exact absurd e (P i j hi hj h)
  · exact h
  · exact absurd e.symm (P j i hj hi h)
theorem mdel_hd {n o : Nat} {h : Hps} {k : Int} {l : List Int} (hm : getO h o = mapO (k :: l)) : mdelD n h (.int .i64) (.int .i64 k) (.mp o) = .ok (.tup []) n (setO h o (mapO l)) := by
  show mdelR n h (.int .i64) o (.int .i64 k) (getO h o) = _
  rw [hm]
  have e : eq1 (.int .i64) (.int .i64 k) (.int .i64 k) = .ok true := by rw [eq1_int,decide_eq_true rfl]
  show mdelF n h o (delK1 (.int .i64 k,.int .i64 1) _ _ (eq1 (.int .i64) (.int .i64 k) (.int .i64 k))) (findK1 _ (.int .i64 1) (eq1 (.int .i64) (.int .i64 k) (.int .i64 k))) = _
  rw [e]
  rfl
set_option maxHeartbeats 4000000 in
theorem pClose {n : Nat} {h : Hps} (hg : Gd n h) {s o : Nat} {lD : D} {k : Int} {l : List Int} (s1 : getO h s = .row 2 [.agg [lD,.mp o]]) (hm : getO h o = mapO (k :: l)) :
    callFn (LX (cF Try.prog)) n h [.agg [.ptr s 0 0,.int .i64 k]] (cF Try.prog 83) = .ok (.tup []) n (setO h o (mapO l)) := by
  have hgn := hg n (Nat.le_refl _)
  have hsn : s < n := getO_low hgn (by rw [s1]; simp)
  have hon : o < n := getO_low hgn (by rw [hm]; exact fun e => by cases e)
  have M1 := fun (i : Nat) (G : Hps) (e : getO G o = mapO (k :: l)) => mdel_hd (n := i) e
  rw [f83_eq]; unfold c83; rw [callFn_eq (by rfl)]
  simp (disch:=first|assumption|omega|(simp (disch:=first|assumption|omega) only [sB,Nat.reduceAdd,Nat.reduceLT,Nat.reduceLeDiff,Nat.reduceEqDiff,Nat.reduceMul,↓reduceIte,getO_tl,hm];done)|fail) only [sA,↓reduceIte,Nat.reduceLT,Nat.reduceEqDiff,Nat.reduceAdd,Nat.reduceLeDiff,s1,sub_mp,M1,getO_tl,hm]
  have g1 : Gd n (setO h o (mapO l)) := fun k hk => good_set (hg k hk) (map_low l)
  exact finish_flat (d := .tup []) rfl ((Hp.start g1).cons (r := n) (m := n + 8796093022209) (Nat.le_refl _) (by omega) (fun k hk => low_pair (by omega)))
set_option maxHeartbeats 8000000 in
theorem pSolve {n : Nat} {h : Hps} (hg : Gd n h) {s o a : Nat} {xs : List Nat} {ws : Nat → Nat} {V : Nat → Tm} (S : Sto h s o xs ws V a) (ha : a < xs.length) {t : Tm} (T : Shut t)
    (hC : ∀ m h,Gd m h → callFn (LX (cF Try.prog)) m h [(D.agg [.int .i64 (t).form,.int .i64 (t).n,.bool (t).hid,.str (t).name,slD 2 encL (t).levels,slD 6 encT (t).kids])] (cF Try.prog 59) = .ok (D.agg [.int .i64 (t).form,.int .i64 (t).n,.bool (t).hid,.str (t).name,slD 2 encL (t).levels,slD 6 encT (t).kids]) m h)
    (hM : callFn (LX (cF Try.prog)) (n + 21) ((n + 1,(Ob.row 6 [.agg [.int .i64 (t).form,.int .i64 (t).n,.bool (t).hid,.str (t).name,slD 2 encL (t).levels,slD 6 encT (t).kids]])) :: (n,.row 1 [.ptr s 0 0]) :: h) [(D.agg [.int .i64 (t).form,.int .i64 (t).n,.bool (t).hid,.str (t).name,slD 2 encL (t).levels,slD 6 encT (t).kids]),.fn 86 [] [.ptr n 0 0]] (cF Try.prog 85) = .ok (.bool false) (n + 21) ((n + 1,(Ob.row 6 [.agg [.int .i64 (t).form,.int .i64 (t).n,.bool (t).hid,.str (t).name,slD 2 encL (t).levels,slD 6 encT (t).kids]])) :: (n,.row 1 [.ptr s 0 0]) :: h))
    (hR : callFn (LX (cF Try.prog)) (n + 32) ((n + 30,.map []) :: (n + 1,(Ob.row 6 [.agg [.int .i64 (t).form,.int .i64 (t).n,.bool (t).hid,.str (t).name,slD 2 encL (t).levels,slD 6 encT (t).kids]])) :: (n,.row 1 [.ptr s 0 0]) :: h) [.ptr s 0 0,(D.agg [.int .i64 (t).form,.int .i64 (t).n,.bool (t).hid,.str (t).name,slD 2 encL (t).levels,slD 6 encT (t).kids]),.int .i64 (a : Nat),.mp (n + 30)] (cF Try.prog 87) = .ok (.bool false) (n + 32) ((n + 30,.map []) :: (n + 1,(Ob.row 6 [.agg [.int .i64 (t).form,.int .i64 (t).n,.bool (t).hid,.str (t).name,slD 2 encL (t).levels,slD 6 encT (t).kids]])) :: (n,.row 1 [.ptr s 0 0]) :: h)) :
    ∃ h',callFn (LX (cF Try.prog)) n h [.ptr s 0 0,.int .i64 (a : Nat),(D.agg [.int .i64 (t).form,.int .i64 (t).n,.bool (t).hid,.str (t).name,slD 2 encL (t).levels,slD 6 encT (t).kids])] (cF Try.prog 47) = .ok (.int .i64 0) n h' ∧ Gd n h' ∧ Sto h' s o xs ws (fun i => if i = a then t else V i) (a + 1) ∧ ∀ q es,getO h q = .row 6 es → getO h' q = .row 6 es := by
  have hgn := hg n (Nat.le_refl _)
  have hG : ∀ m,n ≤ m → Gd m h := fun m hm => hg.mono hm
  obtain ⟨lD,s1,s2⟩ := S.st
  have hsn : s < n := getO_low hgn (by rw [s1]; simp)
  have hon : o < n := getO_low hgn (by rw [S.opn]; simp)
  have HB : Hp n h (n + 2) ((n + 1,(Ob.row 6 [.agg [.int .i64 (t).form,.int .i64 (t).n,.bool (t).hid,.str (t).name,slD 2 encL (t).levels,slD 6 encT (t).kids]])) :: (n,.row 1 [.ptr s 0 0]) :: h) := ((Hp.start hg).cons (r := n) (m := n + 1) (Nat.le_refl _) (by omega) (fun k hk => lowO_one (low_ptr (by omega)))).box (r := n + 1) (m := n + 2) (k := 6) (by omega) (by omega) (flatTA t)
  have GB : ∀ m,n + 2 ≤ m → Gd m ((n + 1,(Ob.row 6 [.agg [.int .i64 (t).form,.int .i64 (t).n,.bool (t).hid,.str (t).name,slD 2 encL (t).levels,slD 6 encT (t).kids]])) :: (n,.row 1 [.ptr s 0 0]) :: h) := fun m hm k hk => HB.good k (by omega)
  have SB : Sto ((n + 1,(Ob.row 6 [.agg [.int .i64 (t).form,.int .i64 (t).n,.bool (t).hid,.str (t).name,slD 2 encL (t).levels,slD 6 encT (t).kids]])) :: (n,.row 1 [.ptr s 0 0]) :: h) s o xs ws V a := (S.cons hg (Nat.le_refl _)).cons (n := n + 1) (fun k hk => good_cons.2 ⟨by omega,lowO_one (low_ptr (by omega)),hg k (by omega)⟩) (by omega)
  have c1 : ∀ m,n + 2 ≤ m → callFn (LX (cF Try.prog)) m ((n + 1,(Ob.row 6 [.agg [.int .i64 (t).form,.int .i64 (t).n,.bool (t).hid,.str (t).name,slD 2 encL (t).levels,slD 6 encT (t).kids]])) :: (n,.row 1 [.ptr s 0 0]) :: h) [.ptr s 0 0,.int .i64 (a : Nat)] (cF Try.prog 84) = .ok (.ptr xs[a] 0 0) m ((n + 1,(Ob.row 6 [.agg [.int .i64 (t).form,.int .i64 (t).n,.bool (t).hid,.str (t).name,slD 2 encL (t).levels,slD 6 encT (t).kids]])) :: (n,.row 1 [.ptr s 0 0]) :: h) := fun m hm => pGet (GB m hm) SB ha
  have c2 : ∀ m h,Gd m h → callFn (LX (cF Try.prog)) m h [(D.agg [.int .i64 (t).form,.int .i64 (t).n,.bool (t).hid,.str (t).name,slD 2 encL (t).levels,slD 6 encT (t).kids])] (cF Try.prog 82) = .ok (.int .i64 0) m h := fun m h hg => pClosed T hg
  have hs := slot_open hg S ha (Nat.le_refl _)
  have hx : xs[a] < n := getO_low hgn (by rw [hs]; simp)
  unfold slotD at hs
  have G3 : ∀ m,n + 32 ≤ m → Gd m ((n + 30,.map []) :: (n + 1,(Ob.row 6 [.agg [.int .i64 (t).form,.int .i64 (t).n,.bool (t).hid,.str (t).name,slD 2 encL (t).levels,slD 6 encT (t).kids]])) :: (n,.row 1 [.ptr s 0 0]) :: h) := fun m hm k hk => good_cons.2 ⟨by omega,map_low [],GB m (by omega) k hk⟩
  have e0 : ∀ X,getO (setO h xs[a] X) xs[a] = X := fun X => getO_setO_same (by rw [hs]; simp)
  have sto14 : ∀ (m : Nat) (F : Hps) (a0 a1 a2 a3 a4 a5 b0 b1 b2 b3 b4 b5 c d y0 y1 y2 y3 y4 y5 : D),storeR true 6 xs[a] 0 6 (.agg [y0,y1,y2,y3,y4,y5]) m F (.row 14 [.agg [a0,a1,a2,a3,a4,a5,b0,b1,b2,b3,b4,b5,c,d]]) = .ok .junk m (setO F xs[a] (.row 14 [.agg [a0,a1,a2,a3,a4,a5,y0,y1,y2,y3,y4,y5,c,d]])) := fun _ _ _ _ _ _ _ _ _ _ _ _ _ _ _ _ _ _ _ _ _ _ => rfl
  rw [f47_eq]; unfold c47; rw [callFn_eq (by rfl)]
  simp (disch:=first|assumption|omega|(simp (disch:=first|assumption|omega) only [sB,Nat.reduceAdd,Nat.reduceLT,Nat.reduceLeDiff,Nat.reduceEqDiff,Nat.reduceMul,↓reduceIte,GB,G3];done)|fail) only [sA,↓reduceIte,Nat.reduceLT,Nat.reduceEqDiff,Nat.reduceAdd,Nat.reduceLeDiff,c1,ptr_nil,c2,hs,hM,hR,hC,e0,sto14,setO_set,GB,G3]
  generalize hX : Ob.row 14 [D.agg [.int .i64 2,.int .i64 0,.bool false,.str [],slD 2 encL tyS,.nils,.int .i64 t.form,.int .i64 t.n,.bool t.hid,.str t.name,slD 2 encL t.levels,slD 6 encT t.kids,.bool true,.ms 1 (ws a) 0 1 false]] = X
  have hw := S.wait a (Nat.le_refl _) ha
  have hwn : ws a < n := getO_low hgn (by rw [hw]; simp)
  have hm := opn_map S
  have hop : opens a (xs.length - a) = ((a : Nat) : Int) :: opens (a + 1) (xs.length - (a + 1)) := by
    unfold opens
    rw [show xs.length - a = (xs.length - (a + 1)) + 1 by omega,List.range'_succ]
    rfl
  rw [hop] at hm
  generalize hl : opens (a + 1) (xs.length - (a + 1)) = l at hm
  have nox : o ≠ xs[a] := getO_ne (by rw [hm,hs]; exact fun e => by cases e)
  have nsx : s ≠ xs[a] := getO_ne (by rw [s1,hs]; simp)
  have nos : o ≠ s := getO_ne (by rw [hm,s1]; exact fun e => by cases e)
  have nwx : ws a ≠ xs[a] := getO_ne (by rw [hw,hs]; simp)
  have kx : ∀ {r : Nat},r ≠ xs[a] → ∀ X,getO (setO h xs[a] X) r = getO h r := fun hr X => by rw [getO_setO _ _ _ _ (by rw [hs]; simp),if_neg hr]
  have w1 : ∀ X,getO (setO h xs[a] X) (ws a) = .row 1 [.fn 83 [.agg [.ptr s 0 0,.int .i64 (a : Nat)]] []] := fun X => by rw [kx nwx]; exact hw
  have lX : ∀ k,n ≤ k → lowO k X := fun k hk => by rw [← hX]; exact low_slot (v := t) (b := true) (by omega)
  have gX : Gd n (setO h xs[a] X) := fun k hk => good_set (hg k hk) (lX k hk)
  have c6 : callFn (LX (cF Try.prog)) (n + 57) ((n + 30,.map []) :: (n + 1,(Ob.row 6 [.agg [.int .i64 (t).form,.int .i64 (t).n,.bool (t).hid,.str (t).name,slD 2 encL (t).levels,slD 6 encT (t).kids]])) :: (n,.row 1 [.ptr s 0 0]) :: setO h xs[a] X) [.agg [.ptr s 0 0,.int .i64 (a : Nat)]] (cF Try.prog 83) = .ok (.tup []) (n + 57) ((n + 30,.map []) :: (n + 1,(Ob.row 6 [.agg [.int .i64 (t).form,.int .i64 (t).n,.bool (t).hid,.str (t).name,slD 2 encL (t).levels,slD 6 encT (t).kids]])) :: (n,.row 1 [.ptr s 0 0]) :: setO (setO h xs[a] X) o (mapO l)) := by
    have e := pClose (n := n + 57) (h := (n + 30,.map []) :: (n + 1,(Ob.row 6 [.agg [.int .i64 (t).form,.int .i64 (t).n,.bool (t).hid,.str (t).name,slD 2 encL (t).levels,slD 6 encT (t).kids]])) :: (n,.row 1 [.ptr s 0 0]) :: setO h xs[a] X) (fun k hk => good_cons.2 ⟨by omega,map_low [],good_cons.2 ⟨by omega,lowO_one (low_flat (flatTA t)),good_cons.2 ⟨by omega,lowO_one (low_ptr (by omega)),gX k (by omega)⟩⟩⟩) (s := s) (o := o) (lD := lD) (k := ((a : Nat) : Int)) (l := l)
      (by rw [getO_tl (by omega),getO_tl (by omega),getO_tl (by omega),kx nsx]; exact s1) (by rw [getO_tl (by omega),getO_tl (by omega),getO_tl (by omega),kx nox]; exact hm)
    rw [setO_tl (by omega),setO_tl (by omega),setO_tl (by omega)] at e
    exact e
  have ex : getO (setO (setO h xs[a] X) o (mapO l)) xs[a] = X := by rw [getO_setO _ _ _ _ (by rw [kx nox,hm]; exact fun e => by cases e),if_neg nox.symm]; exact e0 X
  have zz0 : (0 : Int) + 1 = 1 := rfl
  rw [LX_loop]
  unfold l47_0
  simp (disch:=first|assumption|omega|(simp (disch:=first|assumption|omega) only [sB,Nat.reduceAdd,Nat.reduceLT,Nat.reduceLeDiff,Nat.reduceEqDiff,Nat.reduceMul,↓reduceIte];done)|fail) only [sA,↓reduceIte,Nat.reduceLT,Nat.reduceEqDiff,Nat.reduceAdd,Nat.reduceLeDiff,w1,c6,ex,zz0,callX_fn,iaddr_ms]
  rw [LX_loop]
  subst hX
  simp (disch:=first|assumption|omega|(simp (disch:=first|assumption|omega) only [sB,Nat.reduceAdd,Nat.reduceLT,Nat.reduceLeDiff,Nat.reduceEqDiff,Nat.reduceMul,↓reduceIte];done)|fail) only [sA,↓reduceIte,Nat.reduceLT,Nat.reduceEqDiff,Nat.reduceAdd,Nat.reduceLeDiff,ex,setO_set]
  generalize hX : Ob.row 14 [D.agg [.int .i64 2,.int .i64 0,.bool false,.str [],slD 2 encL tyS,.nils,.int .i64 t.form,.int .i64 t.n,.bool t.hid,.str t.name,slD 2 encL t.levels,slD 6 encT t.kids,.bool true,.ms 1 (ws a) 0 1 false]] = X at lX gX ex ⊢
  have ey : getO (setO (setO (setO h xs[a] X) o (mapO l)) xs[a] (.row 14 [slotD t true .nils])) xs[a] = .row 14 [slotD t true .nils] := getO_setO_same (by rw [ex,← hX]; simp)
  have ko : ∀ {r : Nat},r ≠ xs[a] → r ≠ o → getO (setO (setO (setO h xs[a] X) o (mapO l)) xs[a] (.row 14 [slotD t true .nils])) r = getO h r := fun h1 h2 => by
    rw [getO_setO _ _ _ _ (by rw [ex,← hX]; simp),if_neg h1,getO_setO _ _ _ _ (by rw [kx nox,hm]; exact fun e => by cases e),if_neg h2,kx h1]
  have eo : getO (setO (setO (setO h xs[a] X) o (mapO l)) xs[a] (.row 14 [slotD t true .nils])) o = mapO l := by
    rw [getO_setO _ _ _ _ (by rw [ex,← hX]; simp),if_neg nox]
    exact getO_setO_same (by rw [kx nox,hm]; exact fun e => by cases e)
  have lY : ∀ k,lowO k (.row 14 [slotD t true .nils]) := fun k => lowO_one (low_agg (fun d hd => by
    have f1 : ∀ {α : Type} (j : Nat) (enc : α → D) (s : Sl α),hasR k 19 (slD j enc s) = false := fun j enc s => by rcases slD_isSl j enc s with ⟨h1,_⟩ | ⟨_,_,h1⟩ <;> rw [h1] <;> rfl
    simp only [List.mem_cons,List.not_mem_nil,or_false] at hd
    rcases hd with rfl | rfl | rfl | rfl | rfl | rfl | rfl | rfl | rfl | rfl | rfl | rfl | rfl | rfl | hf
    all_goals first | rfl | exact f1 _ _ _ | exact hf.elim))
  have gY : Gd n (setO (setO (setO h xs[a] X) o (mapO l)) xs[a] (.row 14 [slotD t true .nils])) := fun k hk => good_set (good_set (gX k hk) (map_low l)) (lY k)
  have HH := (((Hp.start gY).cons (r := n) (m := n + 1) (o := .row 1 [.ptr s 0 0]) (Nat.le_refl _) (by omega) (fun k hk => lowO_one (low_ptr (by omega)))).box (r := n + 1) (m := n + 2) (k := 6) (by omega) (by omega) (flatTA t)).cons (r := n + 30) (m := n + 66) (o := mapO []) (by omega) (by omega) (fun k hk => map_low [])
  refine ⟨_,finish_flat (d := .int .i64 0) rfl HH,gY,?_,fun q es hq => (ko (getO_ne (by rw [hq,hs]; simp)) (getO_ne (by rw [hq,hm]; exact fun e => by cases e))).trans hq⟩
  refine ⟨⟨lD,(ko nsx nos.symm).trans s1,?_⟩,fun i hi => ?_,fun i ha2 hi => ?_,?_,S.dist,fun i hi => ?_⟩
  · rcases s2 with h | ⟨lr,k1,k2,k3⟩
    · exact .inl h
    · exact .inr ⟨lr,k1,k2,(ko (getO_ne (by rw [k3,hs]; simp)) (getO_ne (by rw [k3,hm]; exact fun e => by cases e))).trans k3⟩
  · by_cases hia : i = a
    · subst hia
      rw [if_pos rfl,decide_eq_true (by omega),if_pos (by omega)]
      exact ey
    · have hne : xs[i] ≠ xs[a] := fun e => hia (nodup_at S.dist hi ha e)
      have hsi := S.slot i hi
      rw [ko hne (getO_ne (by rw [hsi,hm]; exact fun e => by cases e)),hsi,if_neg hia]
      by_cases h1 : i < a
      · rw [if_pos h1,if_pos (by omega),decide_eq_true h1,decide_eq_true (by omega)]
      · rw [if_neg h1,if_neg (by omega),decide_eq_false h1,decide_eq_false (by omega)]
  · have hwi := S.wait i (by omega) hi
    rw [ko (getO_ne (by rw [hwi,hs]; simp)) (getO_ne (by rw [hwi,hm]; exact fun e => by cases e))]
    exact hwi
  · rw [eo,← hl]
    unfold mapO opens
    rw [List.map_map,List.map_map]
    rfl
  · show (if i = a then t else V i) = zeroT
    rw [if_neg (by omega)]
    exact S.val i (by omega)
set_option maxHeartbeats 8000000 in
theorem pSolveR {n : Nat} {h : Hps} (hg : Gd n h) {s o a : Nat} {xs : List Nat} {ws : Nat → Nat} {V : Nat → Tm} (S : Sto h s o xs ws V a) (ha : a < xs.length) {t : Tm} (T : Shut t)
    (hM : callFn (LX (cF Try.prog)) (n + 21) ((n + 1,(Ob.row 6 [.agg [.int .i64 (t).form,.int .i64 (t).n,.bool (t).hid,.str (t).name,slD 2 encL (t).levels,slD 6 encT (t).kids]])) :: (n,.row 1 [.ptr s 0 0]) :: h) [(D.agg [.int .i64 (t).form,.int .i64 (t).n,.bool (t).hid,.str (t).name,slD 2 encL (t).levels,slD 6 encT (t).kids]),.fn 86 [] [.ptr n 0 0]] (cF Try.prog 85) = .ok (.bool false) (n + 21) ((n + 1,(Ob.row 6 [.agg [.int .i64 (t).form,.int .i64 (t).n,.bool (t).hid,.str (t).name,slD 2 encL (t).levels,slD 6 encT (t).kids]])) :: (n,.row 1 [.ptr s 0 0]) :: h)) {l : List Int}
    (hR : callFn (LX (cF Try.prog)) (n + 32) ((n + 30,.map []) :: (n + 1,(Ob.row 6 [.agg [.int .i64 (t).form,.int .i64 (t).n,.bool (t).hid,.str (t).name,slD 2 encL (t).levels,slD 6 encT (t).kids]])) :: (n,.row 1 [.ptr s 0 0]) :: h) [.ptr s 0 0,(D.agg [.int .i64 (t).form,.int .i64 (t).n,.bool (t).hid,.str (t).name,slD 2 encL (t).levels,slD 6 encT (t).kids]),.int .i64 (a : Nat),.mp (n + 30)] (cF Try.prog 87) = .ok (.bool true) (n + 32) ((n + 30,mapO l) :: (n + 1,(Ob.row 6 [.agg [.int .i64 (t).form,.int .i64 (t).n,.bool (t).hid,.str (t).name,slD 2 encL (t).levels,slD 6 encT (t).kids]])) :: (n,.row 1 [.ptr s 0 0]) :: h)) :
    callFn (LX (cF Try.prog)) n h [.ptr s 0 0,.int .i64 (a : Nat),(D.agg [.int .i64 (t).form,.int .i64 (t).n,.bool (t).hid,.str (t).name,slD 2 encL (t).levels,slD 6 encT (t).kids])] (cF Try.prog 47) = .ok (.int .i64 51) n h := by
  have hgn := hg n (Nat.le_refl _)
  have hG : ∀ m,n ≤ m → Gd m h := fun m hm => hg.mono hm
  obtain ⟨lD,s1,s2⟩ := S.st
  have hsn : s < n := getO_low hgn (by rw [s1]; simp)
  have hon : o < n := getO_low hgn (by rw [S.opn]; simp)
  have HB : Hp n h (n + 2) ((n + 1,(Ob.row 6 [.agg [.int .i64 (t).form,.int .i64 (t).n,.bool (t).hid,.str (t).name,slD 2 encL (t).levels,slD 6 encT (t).kids]])) :: (n,.row 1 [.ptr s 0 0]) :: h) := ((Hp.start hg).cons (r := n) (m := n + 1) (Nat.le_refl _) (by omega) (fun k hk => lowO_one (low_ptr (by omega)))).box (r := n + 1) (m := n + 2) (k := 6) (by omega) (by omega) (flatTA t)
  have GB : ∀ m,n + 2 ≤ m → Gd m ((n + 1,(Ob.row 6 [.agg [.int .i64 (t).form,.int .i64 (t).n,.bool (t).hid,.str (t).name,slD 2 encL (t).levels,slD 6 encT (t).kids]])) :: (n,.row 1 [.ptr s 0 0]) :: h) := fun m hm k hk => HB.good k (by omega)
  have SB : Sto ((n + 1,(Ob.row 6 [.agg [.int .i64 (t).form,.int .i64 (t).n,.bool (t).hid,.str (t).name,slD 2 encL (t).levels,slD 6 encT (t).kids]])) :: (n,.row 1 [.ptr s 0 0]) :: h) s o xs ws V a := (S.cons hg (Nat.le_refl _)).cons (n := n + 1) (fun k hk => good_cons.2 ⟨by omega,lowO_one (low_ptr (by omega)),hg k (by omega)⟩) (by omega)
  have c1 : ∀ m,n + 2 ≤ m → callFn (LX (cF Try.prog)) m ((n + 1,(Ob.row 6 [.agg [.int .i64 (t).form,.int .i64 (t).n,.bool (t).hid,.str (t).name,slD 2 encL (t).levels,slD 6 encT (t).kids]])) :: (n,.row 1 [.ptr s 0 0]) :: h) [.ptr s 0 0,.int .i64 (a : Nat)] (cF Try.prog 84) = .ok (.ptr xs[a] 0 0) m ((n + 1,(Ob.row 6 [.agg [.int .i64 (t).form,.int .i64 (t).n,.bool (t).hid,.str (t).name,slD 2 encL (t).levels,slD 6 encT (t).kids]])) :: (n,.row 1 [.ptr s 0 0]) :: h) := fun m hm => pGet (GB m hm) SB ha
  have c2 : ∀ m h,Gd m h → callFn (LX (cF Try.prog)) m h [(D.agg [.int .i64 (t).form,.int .i64 (t).n,.bool (t).hid,.str (t).name,slD 2 encL (t).levels,slD 6 encT (t).kids])] (cF Try.prog 82) = .ok (.int .i64 0) m h := fun m h hg => pClosed T hg
  have hs := slot_open hg S ha (Nat.le_refl _)
  have hx : xs[a] < n := getO_low hgn (by rw [hs]; simp)
  unfold slotD at hs
  have G3 : ∀ m,n + 32 ≤ m → Gd m ((n + 30,.map []) :: (n + 1,(Ob.row 6 [.agg [.int .i64 (t).form,.int .i64 (t).n,.bool (t).hid,.str (t).name,slD 2 encL (t).levels,slD 6 encT (t).kids]])) :: (n,.row 1 [.ptr s 0 0]) :: h) := fun m hm k hk => good_cons.2 ⟨by omega,map_low [],GB m (by omega) k hk⟩
  rw [f47_eq]; unfold c47; rw [callFn_eq (by rfl)]
  simp (disch:=first|assumption|omega|(simp (disch:=first|assumption|omega) only [sB,Nat.reduceAdd,Nat.reduceLT,Nat.reduceLeDiff,Nat.reduceEqDiff,Nat.reduceMul,↓reduceIte,GB,G3];done)|fail) only [sA,↓reduceIte,Nat.reduceLT,Nat.reduceEqDiff,Nat.reduceAdd,Nat.reduceLeDiff,c1,ptr_nil,c2,hs,hM,hR,GB,G3]
end Go.Proofs.Ytdijijblccmfbaa
set_option linter.unusedSimpArgs false
set_option linter.unusedVariables false
namespace Go.Proofs.Ytdijijblccmfbaa
open Go

section
set_option linter.unusedSectionVars false
variable {n : Nat} {h : Hps} (hg : Gd n h) {s o a : Nat} {xs : List Nat} {ws : Nat → Nat} {V : Nat → Tm} (S : Sto h s o xs ws V a) (ha : a < xs.length)
include hg S ha
theorem H2_gd (t : Tm) : ∀ m,n + 2 ≤ m → Gd m ((n + 1,(Ob.row 6 [.agg [.int .i64 (t).form,.int .i64 (t).n,.bool (t).hid,.str (t).name,slD 2 encL (t).levels,slD 6 encT (t).kids]])) :: (n,.row 1 [.ptr s 0 0]) :: h) := fun m hm k hk => by
  obtain ⟨lD,s1,_⟩ := S.st
  have hsn : s < n := getO_low (hg n (Nat.le_refl _)) (by rw [s1]; simp)
  exact good_cons.2 ⟨by omega,lowO_one (low_flat (flatTA t)),good_cons.2 ⟨by omega,lowO_one (low_ptr (by omega)),hg k (by omega)⟩⟩
theorem H2_st (t : Tm) : Sto ((n + 1,(Ob.row 6 [.agg [.int .i64 (t).form,.int .i64 (t).n,.bool (t).hid,.str (t).name,slD 2 encL (t).levels,slD 6 encT (t).kids]])) :: (n,.row 1 [.ptr s 0 0]) :: h) s o xs ws V a := by
  obtain ⟨lD,s1,_⟩ := S.st
  have hsn : s < n := getO_low (hg n (Nat.le_refl _)) (by rw [s1]; simp)
  exact (S.cons hg (Nat.le_refl _)).cons (n := n + 1) (fun k hk => good_cons.2 ⟨by omega,lowO_one (low_ptr (by omega)),hg k (by omega)⟩) (by omega)
theorem low_s1 {m : Nat} (hm : n + 1 ≤ m) : low m (.fn 86 [] [.ptr n 0 0]) := low_fn (fun d hd => by cases hd) (fun d hd => by rw [List.mem_singleton.1 hd]; exact ble_f (by omega))
theorem copy_of {t : Tm} (T : Shut t) (hk : t.kids.el = []) (hb : bareT t [] = t) : ∀ m h,Gd m h → callFn (LX (cF Try.prog)) m h [(D.agg [.int .i64 (t).form,.int .i64 (t).n,.bool (t).hid,.str (t).name,slD 2 encL (t).levels,slD 6 encT (t).kids])] (cF Try.prog 59) = .ok (D.agg [.int .i64 (t).form,.int .i64 (t).n,.bool (t).hid,.str (t).name,slD 2 encL (t).levels,slD 6 encT (t).kids]) m h := fun m h hg => by
  rw [pCopy m h hg t T.slim (by have := T.size; omega) (by have := T.high; omega),copy0 hk,hb,encT_eq]
theorem sMeta (hb : a + 1 < xs.length) (hx : xs.length ≤ 500) :
    ∃ h',callFn (LX (cF Try.prog)) n h [.ptr s 0 0,.int .i64 (a : Nat),(D.agg [.int .i64 (metaT ((a + 1 : Nat) : Int)).form,.int .i64 (metaT ((a + 1 : Nat) : Int)).n,.bool (metaT ((a + 1 : Nat) : Int)).hid,.str (metaT ((a + 1 : Nat) : Int)).name,slD 2 encL (metaT ((a + 1 : Nat) : Int)).levels,slD 6 encT (metaT ((a + 1 : Nat) : Int)).kids])] (cF Try.prog 47) = .ok (.int .i64 0) n h' ∧ Gd n h' ∧ Sto h' s o xs ws (fun i => if i = a then metaT ((a + 1 : Nat) : Int) else V i) (a + 1) ∧ ∀ q es,getO h q = .row 6 es → getO h' q = .row 6 es := by
  have T : Shut (metaT ((a + 1 : Nat) : Int)) := shut_meta (by omega)
  have G2 := H2_gd hg S ha (metaT ((a + 1 : Nat) : Int))
  have S2 := H2_st hg S ha (metaT ((a + 1 : Nat) : Int))
  refine pSolve hg S ha T (copy_of hg S ha T rfl (bare_meta _)) ?_ ?_
  · refine pMetas (G2 _ (by omega)) (G2 _ (by omega)) _ rfl (isFn (fun m hm => low_s1 hg S ha (by omega))) (fun _ => ?_) (fun e => absurd rfl e)
    rw [callX_fn]
    have g1 : Gd (n + 21 + 1) ((n + 21,(Ob.row 6 [.agg [.int .i64 (metaT ((a + 1 : Nat) : Int)).form,.int .i64 (metaT ((a + 1 : Nat) : Int)).n,.bool (metaT ((a + 1 : Nat) : Int)).hid,.str (metaT ((a + 1 : Nat) : Int)).name,slD 2 encL (metaT ((a + 1 : Nat) : Int)).levels,slD 6 encT (metaT ((a + 1 : Nat) : Int)).kids]])) :: (n + 1,(Ob.row 6 [.agg [.int .i64 (metaT ((a + 1 : Nat) : Int)).form,.int .i64 (metaT ((a + 1 : Nat) : Int)).n,.bool (metaT ((a + 1 : Nat) : Int)).hid,.str (metaT ((a + 1 : Nat) : Int)).name,slD 2 encL (metaT ((a + 1 : Nat) : Int)).levels,slD 6 encT (metaT ((a + 1 : Nat) : Int)).kids]])) :: (n,.row 1 [.ptr s 0 0]) :: h) := by rw [gd_tm (by omega)]; exact G2 _ (by omega)
    have g2 : Gd (n + 21 + 6) ((n + 21 + 1,.row 1 [.fn 86 [] [.ptr n 0 0]]) :: (n + 21,(Ob.row 6 [.agg [.int .i64 (metaT ((a + 1 : Nat) : Int)).form,.int .i64 (metaT ((a + 1 : Nat) : Int)).n,.bool (metaT ((a + 1 : Nat) : Int)).hid,.str (metaT ((a + 1 : Nat) : Int)).name,slD 2 encL (metaT ((a + 1 : Nat) : Int)).levels,slD 6 encT (metaT ((a + 1 : Nat) : Int)).kids]])) :: (n + 1,(Ob.row 6 [.agg [.int .i64 (metaT ((a + 1 : Nat) : Int)).form,.int .i64 (metaT ((a + 1 : Nat) : Int)).n,.bool (metaT ((a + 1 : Nat) : Int)).hid,.str (metaT ((a + 1 : Nat) : Int)).name,slD 2 encL (metaT ((a + 1 : Nat) : Int)).levels,slD 6 encT (metaT ((a + 1 : Nat) : Int)).kids]])) :: (n,.row 1 [.ptr s 0 0]) :: h) := fun k hk => good_cons.2 ⟨by omega,lowO_one (low_s1 hg S ha (by omega)),g1 k (by omega)⟩
    have g3 : Gd (n + 21 + 12) ((n + 21 + 6,(Ob.row 6 [.agg [.int .i64 (metaT ((a + 1 : Nat) : Int)).form,.int .i64 (metaT ((a + 1 : Nat) : Int)).n,.bool (metaT ((a + 1 : Nat) : Int)).hid,.str (metaT ((a + 1 : Nat) : Int)).name,slD 2 encL (metaT ((a + 1 : Nat) : Int)).levels,slD 6 encT (metaT ((a + 1 : Nat) : Int)).kids]])) :: (n + 21 + 1,.row 1 [.fn 86 [] [.ptr n 0 0]]) :: (n + 21,(Ob.row 6 [.agg [.int .i64 (metaT ((a + 1 : Nat) : Int)).form,.int .i64 (metaT ((a + 1 : Nat) : Int)).n,.bool (metaT ((a + 1 : Nat) : Int)).hid,.str (metaT ((a + 1 : Nat) : Int)).name,slD 2 encL (metaT ((a + 1 : Nat) : Int)).levels,slD 6 encT (metaT ((a + 1 : Nat) : Int)).kids]])) :: (n + 1,(Ob.row 6 [.agg [.int .i64 (metaT ((a + 1 : Nat) : Int)).form,.int .i64 (metaT ((a + 1 : Nat) : Int)).n,.bool (metaT ((a + 1 : Nat) : Int)).hid,.str (metaT ((a + 1 : Nat) : Int)).name,slD 2 encL (metaT ((a + 1 : Nat) : Int)).levels,slD 6 encT (metaT ((a + 1 : Nat) : Int)).kids]])) :: (n,.row 1 [.ptr s 0 0]) :: h) := by rw [gd_tm (by omega)]; exact g2.mono (by omega)
    exact pS1 (by rw [gd_tm (by omega)]; exact g3.mono (by omega)) (((((S2.cons (n := n + 21) (G2 _ (by omega)) (Nat.le_refl _)).cons g1 (Nat.le_refl _)).cons g2 (Nat.le_refl _)).cons g3 (Nat.le_refl _))) hb (by rw [getO_tl (by omega),getO_tl (by omega),getO_tl (by omega),getO_tl (by omega),getO_tl (by omega),getO_hd])
  · exact pReachF (fun k hk => good_cons.2 ⟨by omega,map_low [],G2 _ (by omega) k hk⟩) (S2.cons (n := n + 30) (G2 _ (by omega)) (Nat.le_refl _)) hb (by omega) (by omega) (by omega)
theorem sCon :
    ∃ h',callFn (LX (cF Try.prog)) n h [.ptr s 0 0,.int .i64 (a : Nat),(D.agg [.int .i64 (conT).form,.int .i64 (conT).n,.bool (conT).hid,.str (conT).name,slD 2 encL (conT).levels,slD 6 encT (conT).kids])] (cF Try.prog 47) = .ok (.int .i64 0) n h' ∧ Gd n h' ∧ Sto h' s o xs ws (fun i => if i = a then conT else V i) (a + 1) ∧ ∀ q es,getO h q = .row 6 es → getO h' q = .row 6 es := by
  have G2 := H2_gd hg S ha conT
  obtain ⟨lD,s1,_⟩ := S.st
  have hsn : s < n := getO_low (hg n (Nat.le_refl _)) (by rw [s1]; simp)
  refine pSolve hg S ha shut_con (copy_of hg S ha shut_con rfl bare_con) ?_ ?_
  · exact pMetas (G2 _ (by omega)) (G2 _ (by omega)) _ rfl (isFn (fun m hm => low_s1 hg S ha (by omega))) (fun e => by exact absurd e (by decide)) (fun _ => ⟨rfl,rfl⟩)
  · exact pReachC (fun k hk => good_cons.2 ⟨by omega,map_low [],G2 _ (by omega) k hk⟩) (by omega) (by omega)
theorem sRing (hV : ∀ i,i < a → V i = metaT ((i + 1 : Nat) : Int)) : callFn (LX (cF Try.prog)) n h [.ptr s 0 0,.int .i64 (a : Nat),(D.agg [.int .i64 (appT).form,.int .i64 (appT).n,.bool (appT).hid,.str (appT).name,slD 2 encL (appT).levels,slD 6 encT (appT).kids])] (cF Try.prog 47) = .ok (.int .i64 51) n h := by
  have G2 := H2_gd hg S ha appT
  have S2 := H2_st hg S ha appT
  have hon : o < n := getO_low (hg n (Nat.le_refl _)) (by rw [S.opn]; simp)
  obtain ⟨l',e⟩ := pReachA (m := n + 30) ha hV (by omega) (fun k hk => good_cons.2 ⟨by omega,map_low [],G2 _ (by omega) k hk⟩) (S2.cons (x := .map []) (n := n + 30) (G2 _ (by omega)) (Nat.le_refl _)) (n := n + 32) getO_hd
  rw [setO_hd] at e
  refine pSolveR hg S ha shut_app ?_ e
  refine pMetasA (G2 _ (by omega)) (G2 _ (by omega)) (isFn (fun m hm => low_s1 hg S ha (by omega))) ?_
  rw [callX_fn]
  have g1 : Gd (n + 21 + 1) ((n + 21,(Ob.row 6 [.agg [.int .i64 (appT).form,.int .i64 (appT).n,.bool (appT).hid,.str (appT).name,slD 2 encL (appT).levels,slD 6 encT (appT).kids]])) :: (n + 1,(Ob.row 6 [.agg [.int .i64 (appT).form,.int .i64 (appT).n,.bool (appT).hid,.str (appT).name,slD 2 encL (appT).levels,slD 6 encT (appT).kids]])) :: (n,.row 1 [.ptr s 0 0]) :: h) := by rw [gd_tm (by omega)]; exact G2 _ (by omega)
  have g2 : Gd (n + 21 + 6) ((n + 21 + 1,.row 1 [.fn 86 [] [.ptr n 0 0]]) :: (n + 21,(Ob.row 6 [.agg [.int .i64 (appT).form,.int .i64 (appT).n,.bool (appT).hid,.str (appT).name,slD 2 encL (appT).levels,slD 6 encT (appT).kids]])) :: (n + 1,(Ob.row 6 [.agg [.int .i64 (appT).form,.int .i64 (appT).n,.bool (appT).hid,.str (appT).name,slD 2 encL (appT).levels,slD 6 encT (appT).kids]])) :: (n,.row 1 [.ptr s 0 0]) :: h) := fun k hk => good_cons.2 ⟨by omega,lowO_one (low_s1 hg S ha (by omega)),g1 k (by omega)⟩
  exact pS1 (k := 0) (A5_gd g2 _ (by omega)) (((S2.cons (n := n + 21) (G2 _ (by omega)) (Nat.le_refl _)).cons g1 (Nat.le_refl _)).a5 g2) (by omega) (by rw [A5_get (by omega),getO_tl (by omega),getO_tl (by omega),getO_tl (by omega),getO_hd])
end
set_option maxHeartbeats 4000000 in
theorem pZonk {n : Nat} {h : Hps} (hg : Gd n h) {s : Nat} {t E : Tm} (T : Shut t) (TE : Shut E)
    (hP : callFn (LX (cF Try.prog)) (n + 14) ((n + 9,.row 1 [.int .i64 40002]) :: (n + 1,(Ob.row 6 [.agg [.int .i64 0,.int .i64 0,.bool false,.str [],.nils,.nils]])) :: (n,(Ob.row 6 [.agg [.int .i64 (t).form,.int .i64 (t).n,.bool (t).hid,.str (t).name,slD 2 encL (t).levels,slD 6 encT (t).kids]])) :: h) [.ptr s 0 0,(D.agg [.int .i64 (t).form,.int .i64 (t).n,.bool (t).hid,.str (t).name,slD 2 encL (t).levels,slD 6 encT (t).kids]),.ptr (n + 9) 0 0] (cF Try.prog 88) = .ok (D.agg [.int .i64 (E).form,.int .i64 (E).n,.bool (E).hid,.str (E).name,slD 2 encL (E).levels,slD 6 encT (E).kids]) (n + 14) ((n + 9,.row 1 [.int .i64 40001]) :: (n + 1,(Ob.row 6 [.agg [.int .i64 0,.int .i64 0,.bool false,.str [],.nils,.nils]])) :: (n,(Ob.row 6 [.agg [.int .i64 (t).form,.int .i64 (t).n,.bool (t).hid,.str (t).name,slD 2 encL (t).levels,slD 6 encT (t).kids]])) :: h)) :
    callFn (LX (cF Try.prog)) n h [.ptr s 0 0,(D.agg [.int .i64 (t).form,.int .i64 (t).n,.bool (t).hid,.str (t).name,slD 2 encL (t).levels,slD 6 encT (t).kids])] (cF Try.prog 51) = .ok (.tup [(D.agg [.int .i64 (E).form,.int .i64 (E).n,.bool (E).hid,.str (E).name,slD 2 encL (E).levels,slD 6 encT (E).kids]),.int .i64 0]) n h := by
  have hgn := hg n (Nat.le_refl _)
  have hG : ∀ m,n ≤ m → Gd m h := fun m hm => hg.mono hm
  have c1 : ∀ m h,Gd m h → callFn (LX (cF Try.prog)) m h [(D.agg [.int .i64 (t).form,.int .i64 (t).n,.bool (t).hid,.str (t).name,slD 2 encL (t).levels,slD 6 encT (t).kids])] (cF Try.prog 22) = .ok (.int .i64 0) m h := fun m h hg => by rw [pCheck t T.sane m h hg,T.check]
  have c2 : ∀ m h,Gd m h → callFn (LX (cF Try.prog)) m h [(D.agg [.int .i64 (E).form,.int .i64 (E).n,.bool (E).hid,.str (E).name,slD 2 encL (E).levels,slD 6 encT (E).kids])] (cF Try.prog 22) = .ok (.int .i64 0) m h := fun m h hg => by rw [pCheck E TE.sane m h hg,TE.check]
  rw [f51_eq]; unfold c51; rw [callFn_eq (by rfl)]
  have gd_i : ∀ {m r : Nat} {x : Int} {g : Hps},r < m → Gd m ((r,.row 1 [.int .i64 x]) :: g) = Gd m g := fun hr => gd_flat rfl hr
  have gd_e : ∀ {m r : Nat} {g : Hps},r < m → Gd m ((r,(Ob.row 6 [.agg [.int .i64 (E).form,.int .i64 (E).n,.bool (E).hid,.str (E).name,slD 2 encL (E).levels,slD 6 encT (E).kids]])) :: g) = Gd m g := fun hr => gd_tm hr
  simp (disch:=first|assumption|omega|(simp (disch:=first|assumption|omega) only [sB,Nat.reduceAdd,Nat.reduceLT,Nat.reduceLeDiff,Nat.reduceEqDiff,Nat.reduceMul,↓reduceIte,hG,gd_tm,gd_zt,gd_i,gd_e];done)|fail) only [sA,↓reduceIte,Nat.reduceLT,Nat.reduceEqDiff,Nat.reduceAdd,Nat.reduceLeDiff,c1,hP,c2,hG,gd_tm,gd_zt,gd_i,gd_e]
set_option maxHeartbeats 4000000 in
theorem pOpen {n : Nat} {h : Hps} (hg : Gd n h) {s o : Nat} {xs : List Nat} {ws : Nat → Nat} {V : Nat → Tm} (S : Sto h s o xs ws V xs.length) (hx : xs.length ≤ 500) (hx0 : xs ≠ []) :
    callFn (LX (cF Try.prog)) n h [.ptr s 0 0] (cF Try.prog 52) = .ok .nils n h := by
  have hgn := hg n (Nat.le_refl _)
  obtain ⟨lD,s1,s2⟩ := S.st
  have hm : getO h o = mapO [] := by have := opn_map S; rw [Nat.sub_self] at this; exact this
  rcases s2 with ⟨rfl,rfl⟩ | ⟨lr,k1,rfl,k3⟩
  · exact absurd rfl hx0
  · have L1 := fun (i : Nat) (k : Int) => look_no (n := i) (k := k) hm (fun p hp => by cases hp)
    rw [f52_eq]; unfold c52; rw [callFn_eq (by rfl)]
    simp (disch:=first|assumption|omega|(simp (disch:=first|assumption|omega) only [sB,Nat.reduceAdd,Nat.reduceLT,Nat.reduceLeDiff,Nat.reduceEqDiff,Nat.reduceMul,↓reduceIte];done)|fail) only [sA,↓reduceIte,Nat.reduceLT,Nat.reduceEqDiff,Nat.reduceAdd,Nat.reduceLeDiff,s1]
    generalize hr : LX (cF Try.prog) (.loop l52_0) _ _ _ = r
    obtain ⟨x,e2,n2,h2,rfl,rfl,p1,rfl,q3⟩ := loop_up hr xs.length
      (fun i e n' h' => n ≤ n' ∧ h' = h ∧ get (po 0) e = .ptr s 0 0 ∧ get (po 3) e = .nils ∧ get (po 10) e = .int .i64 (xs.length : Nat) ∧ get (po 11) e = .int .i64 (i : Nat))
      (fun x e n' h' => x = .exit 0 ∧ n ≤ n' ∧ h' = h ∧ get (po 3) e = .nils)
      (by
        rintro e n' h' ⟨p1,rfl,q0,q3,q10,q11⟩
        unfold l52_0
        simp (disch:=first|assumption|omega|(simp (disch:=first|assumption|omega) only [sB,Nat.reduceAdd,Nat.reduceLT,Nat.reduceLeDiff,Nat.reduceEqDiff,Nat.reduceMul,↓reduceIte];done)|fail) only [sA,↓reduceIte,Nat.reduceLT,Nat.reduceEqDiff,Nat.reduceAdd,Nat.reduceLeDiff,q10,q11]
        exact ⟨_,_,_,_,rfl,by simp,rfl,by omega,rfl,by simp (disch:=first|assumption|omega|(simp (disch:=first|assumption|omega) only [sB,Nat.reduceAdd,Nat.reduceLT,Nat.reduceLeDiff,Nat.reduceEqDiff,Nat.reduceMul,↓reduceIte];done)|fail) only [sA,↓reduceIte,Nat.reduceLT,Nat.reduceEqDiff,Nat.reduceAdd,Nat.reduceLeDiff,q3]⟩)
      (by
        rintro i e n' h' hi ⟨p1,rfl,q0,q3,q10,q11⟩
        unfold l52_0
        simp (disch:=first|assumption|omega|(simp (disch:=first|assumption|omega) only [sB,Nat.reduceAdd,Nat.reduceLT,Nat.reduceLeDiff,Nat.reduceEqDiff,Nat.reduceMul,↓reduceIte];done)|fail) only [sA,↓reduceIte,Nat.reduceLT,Nat.reduceEqDiff,Nat.reduceAdd,Nat.reduceLeDiff,q0,q3,q10,q11,s1,sub_mp,L1]
        exact ⟨_,_,_,_,rfl,.inl ⟨rfl,by omega,rfl,by simp (disch:=first|assumption|omega|(simp (disch:=first|assumption|omega) only [sB,Nat.reduceAdd,Nat.reduceLT,Nat.reduceLeDiff,Nat.reduceEqDiff,Nat.reduceMul,↓reduceIte];done)|fail) only [sA,↓reduceIte,Nat.reduceLT,Nat.reduceEqDiff,Nat.reduceAdd,Nat.reduceLeDiff,q0],by simp (disch:=first|assumption|omega|(simp (disch:=first|assumption|omega) only [sB,Nat.reduceAdd,Nat.reduceLT,Nat.reduceLeDiff,Nat.reduceEqDiff,Nat.reduceMul,↓reduceIte];done)|fail) only [sA,↓reduceIte,Nat.reduceLT,Nat.reduceEqDiff,Nat.reduceAdd,Nat.reduceLeDiff,q3],by simp (disch:=first|assumption|omega|(simp (disch:=first|assumption|omega) only [sB,Nat.reduceAdd,Nat.reduceLT,Nat.reduceLeDiff,Nat.reduceEqDiff,Nat.reduceMul,↓reduceIte];done)|fail) only [sA,↓reduceIte,Nat.reduceLT,Nat.reduceEqDiff,Nat.reduceAdd,Nat.reduceLeDiff,q10],by simp (disch:=first|assumption|omega|(simp (disch:=first|assumption|omega) only [sB,Nat.reduceAdd,Nat.reduceLT,Nat.reduceLeDiff,Nat.reduceEqDiff,Nat.reduceMul,↓reduceIte];done)|fail) only [sA,↓reduceIte,Nat.reduceLT,Nat.reduceEqDiff,Nat.reduceAdd,Nat.reduceLeDiff]⟩⟩)
      ⟨by omega,rfl,by simp (disch:=first|assumption|omega|(simp (disch:=first|assumption|omega) only [sB,Nat.reduceAdd,Nat.reduceLT,Nat.reduceLeDiff,Nat.reduceEqDiff,Nat.reduceMul,↓reduceIte];done)|fail) only [sA,↓reduceIte,Nat.reduceLT,Nat.reduceEqDiff,Nat.reduceAdd,Nat.reduceLeDiff],by simp (disch:=first|assumption|omega|(simp (disch:=first|assumption|omega) only [sB,Nat.reduceAdd,Nat.reduceLT,Nat.reduceLeDiff,Nat.reduceEqDiff,Nat.reduceMul,↓reduceIte];done)|fail) only [sA,↓reduceIte,Nat.reduceLT,Nat.reduceEqDiff,Nat.reduceAdd,Nat.reduceLeDiff],by simp (disch:=first|assumption|omega|(simp (disch:=first|assumption|omega) only [sB,Nat.reduceAdd,Nat.reduceLT,Nat.reduceLeDiff,Nat.reduceEqDiff,Nat.reduceMul,↓reduceIte];done)|fail) only [sA,↓reduceIte,Nat.reduceLT,Nat.reduceEqDiff,Nat.reduceAdd,Nat.reduceLeDiff],by simp (disch:=first|assumption|omega|(simp (disch:=first|assumption|omega) only [sB,Nat.reduceAdd,Nat.reduceLT,Nat.reduceLeDiff,Nat.reduceEqDiff,Nat.reduceMul,↓reduceIte];done)|fail) only [sA,↓reduceIte,Nat.reduceLT,Nat.reduceEqDiff,Nat.reduceAdd,Nat.reduceLeDiff]⟩
    simp (disch:=first|assumption|omega|(simp (disch:=first|assumption|omega) only [sB,Nat.reduceAdd,Nat.reduceLT,Nat.reduceLeDiff,Nat.reduceEqDiff,Nat.reduceMul,↓reduceIte];done)|fail) only [sA,↓reduceIte,Nat.reduceLT,Nat.reduceEqDiff,Nat.reduceAdd,Nat.reduceLeDiff,q3]
theorem cells_mp {r : Nat} : cellsX (.mp r) = some [.mp r] := eqOf rfl
theorem pNew (n : Nat) : callFn (LX (cF Try.prog)) n [] [] (cF Try.prog 45) = .ok (.ptr (n + 3) 0 0) (n + 5) [(n + 3,.row 2 [.agg [.nils,.mp (n + 1)]]),(n + 1,.map [])] := by
  rw [f45_eq]; unfold c45; rw [callFn_eq (by rfl)]
  simp (disch:=first|assumption|omega|(simp (disch:=first|assumption|omega) only [sB,Nat.reduceAdd,Nat.reduceLT,Nat.reduceLeDiff,Nat.reduceEqDiff,Nat.reduceMul,↓reduceIte];done)|fail) only [sA,↓reduceIte,Nat.reduceLT,Nat.reduceEqDiff,Nat.reduceAdd,Nat.reduceLeDiff,cells_mp]
  have e : hasP n 20 (.ptr (n + 3) 0 0) = true := by
    show Nat.ble n (n + 3) = true
    rw [ble_iff,decide_eq_true (by omega)]
  unfold finishD
  rw [e]
  rfl
end Go.Proofs.Ytdijijblccmfbaa
set_option linter.unusedSimpArgs false
set_option linter.unusedVariables false
namespace Go.Proofs.Ytdijijblccmfbaa
open Go Go.ChangeShapes Go.WideShapes Go.ChangeAt Go.RowKit

theorem aliveM : callFn (LX (cF Try.prog)) 2 [] [] ((cF Try.prog) 44) = .ok (.bool true) 2 [] := by
  have h : callFn (exec (tM1.look (cF Try.prog)) 1000) 2 [] [] (tM1.look (cF Try.prog) 44) = .ok (.bool true) 2 [] := by kernel_rfl
  rw [Tb.look_eq tM1_ok] at h
  exact callFn_LX _ h
theorem leak_no (h : Hps) : Ytdijijblccmfbaa.leak 0 h = false := by
  induction h with
  | nil => rfl
  | cons p t ih => rw [show p = (p.1,p.2) from rfl,leak_new (Nat.zero_le _)]; exact ih
theorem newC : pureC [] 4 [] (.fn 45 [] []) [] (.ok (.ptr 8 0 0) 10 [(8,.row 2 [.agg [.nils,.mp 6]]),(6,.map [])]) = .ok (.ptr 8 0 0) 10 [(8,.row 2 [.agg [.nils,.mp 6]]),(6,.map [])] := by kernel_rfl
theorem numM (n : Nat) (h : Hps) (hg : Gd n h) (a : Int) : callFn (LX (cF Try.prog)) n h [.int .i64 a] (cF Try.prog 49) = .ok (.int .i64 a) n h := by
  have hgn := hg n (Nat.le_refl _)
  rw [f49_eq]; unfold c49; rw [callFn_eq (by rfl)]
  simp (disch:=first|assumption|omega|(simp (disch:=first|assumption|omega) only [sB,Nat.reduceAdd,Nat.reduceLT,Nat.reduceLeDiff,Nat.reduceEqDiff,Nat.reduceMul,↓reduceIte];done)|fail) only [sA,↓reduceIte,Nat.reduceLT,Nat.reduceEqDiff,Nat.reduceAdd,Nat.reduceLeDiff]
theorem metaM (n : Nat) (h : Hps) (hg : Gd n h) (a : Int) : callFn (LX (cF Try.prog)) n h [.int .i64 a] (cF Try.prog 48) = .ok (D.agg [.int .i64 (metaT a).form,.int .i64 (metaT a).n,.bool (metaT a).hid,.str (metaT a).name,slD 2 encL (metaT a).levels,slD 6 encT (metaT a).kids]) n h := by
  have hgn := hg n (Nat.le_refl _)
  rw [← encT_eq,enc_meta]
  rw [f48_eq]; unfold c48; rw [callFn_eq (by rfl)]
  simp (disch:=first|assumption|omega|(simp (disch:=first|assumption|omega) only [sB,Nat.reduceAdd,Nat.reduceLT,Nat.reduceLeDiff,Nat.reduceEqDiff,Nat.reduceMul,↓reduceIte];done)|fail) only [sA,↓reduceIte,Nat.reduceLT,Nat.reduceEqDiff,Nat.reduceAdd,Nat.reduceLeDiff]
theorem conM (n : Nat) (h : Hps) (hg : Gd n h) : callFn (LX (cF Try.prog)) n h [.str [99],.nils] (cF Try.prog 50) = .ok (D.agg [.int .i64 (conT).form,.int .i64 (conT).n,.bool (conT).hid,.str (conT).name,slD 2 encL (conT).levels,slD 6 encT (conT).kids]) n h := by
  have hgn := hg n (Nat.le_refl _)
  have e0 : ∀ m g,appD m g 2 32 .nils (.ok 2 []) = .ok .nils m g := fun m g => rfl
  rw [← encT_eq,enc_c]
  rw [f50_eq]; unfold c50; rw [callFn_eq (by rfl)]
  simp (disch:=first|assumption|omega|(simp (disch:=first|assumption|omega) only [sB,Nat.reduceAdd,Nat.reduceLT,Nat.reduceLeDiff,Nat.reduceEqDiff,Nat.reduceMul,↓reduceIte];done)|fail) only [sA,↓reduceIte,Nat.reduceLT,Nat.reduceEqDiff,Nat.reduceAdd,Nat.reduceLeDiff,e0]
theorem setM (n : Nat) (h : Hps) (hg : Gd n h) : callFn (LX (cF Try.prog)) n h [.int .i64 0] (cF Try.prog 21) = .ok (D.agg [.int .i64 (set0).form,.int .i64 (set0).n,.bool (set0).hid,.str (set0).name,slD 2 encL (set0).levels,slD 6 encT (set0).kids]) n h := by
  have hgn := hg n (Nat.le_refl _)
  rw [← encT_eq,encT_eq]
  have e0 : ∀ m g,bslD m g 2 [.agg [.int .i64 0,.nils]] = .ok (.sl 2 [.agg [.int .i64 0,.nils]] [] true) m g := fun m g => rfl
  have e1 : slD 2 encL set0.levels = .sl 2 [.agg [.int .i64 0,.nils]] [] true := rfl
  have e2 : slD 6 encT set0.kids = .nils := rfl
  rw [e1,e2]
  rw [f21_eq]; unfold c21; rw [callFn_eq (by rfl)]
  simp (disch:=first|assumption|omega|(simp (disch:=first|assumption|omega) only [sB,Nat.reduceAdd,Nat.reduceLT,Nat.reduceLeDiff,Nat.reduceEqDiff,Nat.reduceMul,↓reduceIte];done)|fail) only [sA,↓reduceIte,Nat.reduceLT,Nat.reduceEqDiff,Nat.reduceAdd,Nat.reduceLeDiff,e0]
  rfl
theorem appM (n : Nat) (h : Hps) (hg : Gd n h) : callFn (LX (cF Try.prog)) n h [(D.agg [.int .i64 (conT).form,.int .i64 (conT).n,.bool (conT).hid,.str (conT).name,slD 2 encL (conT).levels,slD 6 encT (conT).kids]),(D.agg [.int .i64 (metaT 0).form,.int .i64 (metaT 0).n,.bool (metaT 0).hid,.str (metaT 0).name,slD 2 encL (metaT 0).levels,slD 6 encT (metaT 0).kids])] (cF Try.prog 23) = .ok (D.agg [.int .i64 (appT).form,.int .i64 (appT).n,.bool (appT).hid,.str (appT).name,slD 2 encL (appT).levels,slD 6 encT (appT).kids]) n h := by
  have hgn := hg n (Nat.le_refl _)
  have e0 : ∀ m g,bslD m g 6 [(D.agg [.int .i64 (conT).form,.int .i64 (conT).n,.bool (conT).hid,.str (conT).name,slD 2 encL (conT).levels,slD 6 encT (conT).kids]),(D.agg [.int .i64 (metaT 0).form,.int .i64 (metaT 0).n,.bool (metaT 0).hid,.str (metaT 0).name,slD 2 encL (metaT 0).levels,slD 6 encT (metaT 0).kids])] = .ok (.sl 6 [(D.agg [.int .i64 (conT).form,.int .i64 (conT).n,.bool (conT).hid,.str (conT).name,slD 2 encL (conT).levels,slD 6 encT (conT).kids]),(D.agg [.int .i64 (metaT 0).form,.int .i64 (metaT 0).n,.bool (metaT 0).hid,.str (metaT 0).name,slD 2 encL (metaT 0).levels,slD 6 encT (metaT 0).kids])] [] true) m g := fun m g => rfl
  have e1 : slD 6 encT appT.kids = .sl 6 [(D.agg [.int .i64 (conT).form,.int .i64 (conT).n,.bool (conT).hid,.str (conT).name,slD 2 encL (conT).levels,slD 6 encT (conT).kids]),(D.agg [.int .i64 (metaT 0).form,.int .i64 (metaT 0).n,.bool (metaT 0).hid,.str (metaT 0).name,slD 2 encL (metaT 0).levels,slD 6 encT (metaT 0).kids])] [] true := by rw [← encT_eq,← encT_eq]; rfl
  rw [e1]
  rw [f23_eq]; unfold c23; rw [callFn_eq (by rfl)]
  simp (disch:=first|assumption|omega|(simp (disch:=first|assumption|omega) only [sB,Nat.reduceAdd,Nat.reduceLT,Nat.reduceLeDiff,Nat.reduceEqDiff,Nat.reduceMul,↓reduceIte];done)|fail) only [sA,↓reduceIte,Nat.reduceLT,Nat.reduceEqDiff,Nat.reduceAdd,Nat.reduceLeDiff,e0]
  rfl
set_option maxHeartbeats 16000000 in
set_option maxRecDepth 8000 in
theorem mc_run (k : Int) (ring : Bool) : ∃ n' h',callFn (LX (cF Try.prog)) 0 [] [.int .i64 k,.bool ring] ((cF Try.prog) 10) = .ok (.bool true) n' h' := by
  have F0 := fun m h => finishD_flat (n0 := 0) (n := m) (d := .bool true) rfl (leak_no h)
  have N0 := pNew 5
  rw [f10_eq]; unfold c10; rw [callFn_eq (by rfl)]
  by_cases h1 : k < 1
  · have d1 : decide (k < 1) = true := decide_eq_true h1
    simp (disch:=first|assumption|omega|(simp (disch:=first|assumption|omega) only [sB,Nat.reduceAdd,Nat.reduceLT,Nat.reduceLeDiff,Nat.reduceEqDiff,Nat.reduceMul,↓reduceIte];done)|fail) only [sA,↓reduceIte,Nat.reduceLT,Nat.reduceEqDiff,Nat.reduceAdd,Nat.reduceLeDiff,aliveM,N0,newC,d1,F0]
    exact ⟨_,_,rfl⟩
  have d1 : decide (k < 1) = false := decide_eq_false h1
  by_cases h2 : 100 < k
  · have d2 : decide (100 < k) = true := decide_eq_true h2
    simp (disch:=first|assumption|omega|(simp (disch:=first|assumption|omega) only [sB,Nat.reduceAdd,Nat.reduceLT,Nat.reduceLeDiff,Nat.reduceEqDiff,Nat.reduceMul,↓reduceIte];done)|fail) only [sA,↓reduceIte,Nat.reduceLT,Nat.reduceEqDiff,Nat.reduceAdd,Nat.reduceLeDiff,aliveM,N0,newC,d1,d2,F0]
    exact ⟨_,_,rfl⟩
  have d2 : decide (100 < k) = false := decide_eq_false h2
  obtain ⟨N,rfl⟩ : ∃ N : Nat,k = (N : Nat) := ⟨k.toNat,by omega⟩
  simp (disch:=first|assumption|omega|(simp (disch:=first|assumption|omega) only [sB,Nat.reduceAdd,Nat.reduceLT,Nat.reduceLeDiff,Nat.reduceEqDiff,Nat.reduceMul,↓reduceIte];done)|fail) only [sA,↓reduceIte,Nat.reduceLT,Nat.reduceEqDiff,Nat.reduceAdd,Nat.reduceLeDiff,aliveM,N0,newC,d1,d2,ptr_nil]
  generalize hr : LX (cF Try.prog) (.loop l10_0) _ _ _ = r
  have S0 : Sto [(8,.row 2 [.agg [.nils,.mp 6]]),(6,.map [])] 8 6 [] (fun _ => 0) (fun _ => zeroT) 0 := ⟨⟨.nils,rfl,.inl ⟨rfl,rfl⟩⟩,fun i hi => (by cases hi),fun i _ hi => (by cases hi),rfl,List.nodup_nil,fun _ _ => rfl⟩
  have G0 : ∀ m,9 ≤ m → Gd m [(8,.row 2 [.agg [.nils,.mp 6]]),(6,.map [])] := fun m hm k hk => good_cons.2 ⟨by omega,lowO_one (low_agg (fun d hd => by
    rcases List.mem_cons.1 hd with rfl | hd
    · rfl
    · rw [List.mem_singleton.1 hd]; exact ble_f (by omega))),good_cons.2 ⟨by omega,map_low [],good_nil⟩⟩
  obtain ⟨z,e1,n1,G1,rfl,rfl,xs,ws,hx,g1,S1,p1,q0,q1,q6⟩ := loop_up hr N
    (fun i e n' G => ∃ xs ws,xs.length = i ∧ Gd n' G ∧ Sto G 8 6 xs ws (fun _ => zeroT) 0 ∧ 27 ≤ n' ∧ get (po 0) e = .int .i64 (N : Nat) ∧ get (po 1) e = .bool ring ∧ get (po 6) e = .ptr 8 0 0 ∧ get (po 7) e = .int .i64 (i : Nat))
    (fun z e n' G => z = .exit 0 ∧ ∃ xs ws,xs.length = N ∧ Gd n' G ∧ Sto G 8 6 xs ws (fun _ => zeroT) 0 ∧ 27 ≤ n' ∧ get (po 0) e = .int .i64 (N : Nat) ∧ get (po 1) e = .bool ring ∧ get (po 6) e = .ptr 8 0 0)
    (by
      rintro e n' G ⟨xs,ws,hx,hg,S,p1,q0,q1,q6,q7⟩
      unfold l10_0
      simp (disch:=first|assumption|omega|(simp (disch:=first|assumption|omega) only [sB,Nat.reduceAdd,Nat.reduceLT,Nat.reduceLeDiff,Nat.reduceEqDiff,Nat.reduceMul,↓reduceIte];done)|fail) only [sA,↓reduceIte,Nat.reduceLT,Nat.reduceEqDiff,Nat.reduceAdd,Nat.reduceLeDiff,q0,q7]
      exact ⟨_,_,_,_,rfl,by simp,rfl,xs,ws,hx,hg.mono (by omega),S,by omega,by simp (disch:=first|assumption|omega|(simp (disch:=first|assumption|omega) only [sB,Nat.reduceAdd,Nat.reduceLT,Nat.reduceLeDiff,Nat.reduceEqDiff,Nat.reduceMul,↓reduceIte];done)|fail) only [sA,↓reduceIte,Nat.reduceLT,Nat.reduceEqDiff,Nat.reduceAdd,Nat.reduceLeDiff,q0],by simp (disch:=first|assumption|omega|(simp (disch:=first|assumption|omega) only [sB,Nat.reduceAdd,Nat.reduceLT,Nat.reduceLeDiff,Nat.reduceEqDiff,Nat.reduceMul,↓reduceIte];done)|fail) only [sA,↓reduceIte,Nat.reduceLT,Nat.reduceEqDiff,Nat.reduceAdd,Nat.reduceLeDiff,q1],by simp (disch:=first|assumption|omega|(simp (disch:=first|assumption|omega) only [sB,Nat.reduceAdd,Nat.reduceLT,Nat.reduceLeDiff,Nat.reduceEqDiff,Nat.reduceMul,↓reduceIte];done)|fail) only [sA,↓reduceIte,Nat.reduceLT,Nat.reduceEqDiff,Nat.reduceAdd,Nat.reduceLeDiff,q6]⟩)
    (by
      rintro i e n' G hi ⟨xs,ws,hx,hg,S,p1,q0,q1,q6,q7⟩
      have hG : ∀ m,n' ≤ m → Gd m G := fun m hm => hg.mono hm
      obtain ⟨n2,h2,x,ws2,e2,g2,l2,S2⟩ := pFresh (n := n' + 7) (hg.mono (by omega)) S (by omega)
      unfold l10_0
      simp (disch:=first|assumption|omega|(simp (disch:=first|assumption|omega) only [sB,Nat.reduceAdd,Nat.reduceLT,Nat.reduceLeDiff,Nat.reduceEqDiff,Nat.reduceMul,↓reduceIte,hG];done)|fail) only [sA,↓reduceIte,Nat.reduceLT,Nat.reduceEqDiff,Nat.reduceAdd,Nat.reduceLeDiff,q0,q6,q7,setM,e2,hG]
      exact ⟨_,_,_,_,rfl,.inl ⟨rfl,xs ++ [x],ws2,by rw [List.length_append,hx]; rfl,g2.mono (by omega),S2,by omega,by simp (disch:=first|assumption|omega|(simp (disch:=first|assumption|omega) only [sB,Nat.reduceAdd,Nat.reduceLT,Nat.reduceLeDiff,Nat.reduceEqDiff,Nat.reduceMul,↓reduceIte];done)|fail) only [sA,↓reduceIte,Nat.reduceLT,Nat.reduceEqDiff,Nat.reduceAdd,Nat.reduceLeDiff,q0],by simp (disch:=first|assumption|omega|(simp (disch:=first|assumption|omega) only [sB,Nat.reduceAdd,Nat.reduceLT,Nat.reduceLeDiff,Nat.reduceEqDiff,Nat.reduceMul,↓reduceIte];done)|fail) only [sA,↓reduceIte,Nat.reduceLT,Nat.reduceEqDiff,Nat.reduceAdd,Nat.reduceLeDiff,q1],by simp (disch:=first|assumption|omega|(simp (disch:=first|assumption|omega) only [sB,Nat.reduceAdd,Nat.reduceLT,Nat.reduceLeDiff,Nat.reduceEqDiff,Nat.reduceMul,↓reduceIte];done)|fail) only [sA,↓reduceIte,Nat.reduceLT,Nat.reduceEqDiff,Nat.reduceAdd,Nat.reduceLeDiff,q6],by simp (disch:=first|assumption|omega|(simp (disch:=first|assumption|omega) only [sB,Nat.reduceAdd,Nat.reduceLT,Nat.reduceLeDiff,Nat.reduceEqDiff,Nat.reduceMul,↓reduceIte];done)|fail) only [sA,↓reduceIte,Nat.reduceLT,Nat.reduceEqDiff,Nat.reduceAdd,Nat.reduceLeDiff]⟩⟩)
    ⟨[],_,rfl,G0 _ (by omega),S0,by omega,by simp (disch:=first|assumption|omega|(simp (disch:=first|assumption|omega) only [sB,Nat.reduceAdd,Nat.reduceLT,Nat.reduceLeDiff,Nat.reduceEqDiff,Nat.reduceMul,↓reduceIte];done)|fail) only [sA,↓reduceIte,Nat.reduceLT,Nat.reduceEqDiff,Nat.reduceAdd,Nat.reduceLeDiff],by simp (disch:=first|assumption|omega|(simp (disch:=first|assumption|omega) only [sB,Nat.reduceAdd,Nat.reduceLT,Nat.reduceLeDiff,Nat.reduceEqDiff,Nat.reduceMul,↓reduceIte];done)|fail) only [sA,↓reduceIte,Nat.reduceLT,Nat.reduceEqDiff,Nat.reduceAdd,Nat.reduceLeDiff],by simp (disch:=first|assumption|omega|(simp (disch:=first|assumption|omega) only [sB,Nat.reduceAdd,Nat.reduceLT,Nat.reduceLeDiff,Nat.reduceEqDiff,Nat.reduceMul,↓reduceIte];done)|fail) only [sA,↓reduceIte,Nat.reduceLT,Nat.reduceEqDiff,Nat.reduceAdd,Nat.reduceLeDiff],by simp (disch:=first|assumption|omega|(simp (disch:=first|assumption|omega) only [sB,Nat.reduceAdd,Nat.reduceLT,Nat.reduceLeDiff,Nat.reduceEqDiff,Nat.reduceMul,↓reduceIte];done)|fail) only [sA,↓reduceIte,Nat.reduceLT,Nat.reduceEqDiff,Nat.reduceAdd,Nat.reduceLeDiff]⟩
  simp (disch:=first|assumption|omega|(simp (disch:=first|assumption|omega) only [sB,Nat.reduceAdd,Nat.reduceLT,Nat.reduceLeDiff,Nat.reduceEqDiff,Nat.reduceMul,↓reduceIte];done)|fail) only [sA,↓reduceIte,Nat.reduceLT,Nat.reduceEqDiff,Nat.reduceAdd,Nat.reduceLeDiff,q0,q1,q6]
  generalize hr : LX (cF Try.prog) (.loop l10_1) _ _ _ = r
  obtain ⟨z,e2,n2,G2,rfl,rfl,V,g2,S2,hV,p2,q0,q1,q6⟩ := loop_up hr (N - 1)
    (fun i e n' G => ∃ V,Gd n' G ∧ Sto G 8 6 xs ws V i ∧ (∀ j,j < i → V j = metaT ((j + 1 : Nat) : Int)) ∧ 27 ≤ n' ∧ get (po 0) e = .int .i64 (N : Nat) ∧ get (po 1) e = .bool ring ∧ get (po 6) e = .ptr 8 0 0 ∧ get (po 8) e = .int .i64 (i : Nat))
    (fun z e n' G => z = .exit 2 ∧ ∃ V,Gd n' G ∧ Sto G 8 6 xs ws V (N - 1) ∧ (∀ j,j < N - 1 → V j = metaT ((j + 1 : Nat) : Int)) ∧ 27 ≤ n' ∧ get (po 0) e = .int .i64 (N : Nat) ∧ get (po 1) e = .bool ring ∧ get (po 6) e = .ptr 8 0 0)
    (by
      rintro e n' G ⟨V,hg,S,hV,p1,q0,q1,q6,q8⟩
      have d3 : decide (((N - 1 : Nat) : Int) + 1 < ((N : Nat) : Int)) = false := decide_eq_false (by omega)
      unfold l10_1
      simp (disch:=first|assumption|omega|(simp (disch:=first|assumption|omega) only [sB,Nat.reduceAdd,Nat.reduceLT,Nat.reduceLeDiff,Nat.reduceEqDiff,Nat.reduceMul,↓reduceIte];done)|fail) only [sA,↓reduceIte,Nat.reduceLT,Nat.reduceEqDiff,Nat.reduceAdd,Nat.reduceLeDiff,q0,q8,d3]
      exact ⟨_,_,_,_,rfl,by simp,rfl,V,hg.mono (by omega),S,hV,by omega,by simp (disch:=first|assumption|omega|(simp (disch:=first|assumption|omega) only [sB,Nat.reduceAdd,Nat.reduceLT,Nat.reduceLeDiff,Nat.reduceEqDiff,Nat.reduceMul,↓reduceIte];done)|fail) only [sA,↓reduceIte,Nat.reduceLT,Nat.reduceEqDiff,Nat.reduceAdd,Nat.reduceLeDiff,q0],by simp (disch:=first|assumption|omega|(simp (disch:=first|assumption|omega) only [sB,Nat.reduceAdd,Nat.reduceLT,Nat.reduceLeDiff,Nat.reduceEqDiff,Nat.reduceMul,↓reduceIte];done)|fail) only [sA,↓reduceIte,Nat.reduceLT,Nat.reduceEqDiff,Nat.reduceAdd,Nat.reduceLeDiff,q1],by simp (disch:=first|assumption|omega|(simp (disch:=first|assumption|omega) only [sB,Nat.reduceAdd,Nat.reduceLT,Nat.reduceLeDiff,Nat.reduceEqDiff,Nat.reduceMul,↓reduceIte];done)|fail) only [sA,↓reduceIte,Nat.reduceLT,Nat.reduceEqDiff,Nat.reduceAdd,Nat.reduceLeDiff,q6]⟩)
    (by
      rintro i e n' G hi ⟨V,hg,S,hV,p1,q0,q1,q6,q8⟩
      have hG : ∀ m,n' ≤ m → Gd m G := fun m hm => hg.mono hm
      have d3 : decide (((i : Nat) : Int) + 1 < ((N : Nat) : Int)) = true := decide_eq_true (by omega)
      obtain ⟨h2,e2,g2,S2,_⟩ := sMeta (n := n' + 11) (hg.mono (by omega)) S (by omega) (by omega) (by omega)
      unfold l10_1
      have hG2 : ∀ m,n' + 11 ≤ m → Gd m h2 := fun m hm => g2.mono hm
      simp (disch:=first|assumption|omega|(simp (disch:=first|assumption|omega) only [sB,Nat.reduceAdd,Nat.reduceLT,Nat.reduceLeDiff,Nat.reduceEqDiff,Nat.reduceMul,↓reduceIte,hG,hG2];done)|fail) only [sA,↓reduceIte,Nat.reduceLT,Nat.reduceEqDiff,Nat.reduceAdd,Nat.reduceLeDiff,q0,q6,q8,d3,metaM,e2,numM,hG,hG2]
      exact ⟨_,_,_,_,rfl,.inl ⟨rfl,_,g2.mono (by omega),S2,fun j hj => by
        show (if j = i then metaT ((i + 1 : Nat) : Int) else V j) = _
        by_cases hji : j = i
        · rw [if_pos hji,hji]
        · rw [if_neg hji]; exact hV j (by omega),by omega,by simp (disch:=first|assumption|omega|(simp (disch:=first|assumption|omega) only [sB,Nat.reduceAdd,Nat.reduceLT,Nat.reduceLeDiff,Nat.reduceEqDiff,Nat.reduceMul,↓reduceIte];done)|fail) only [sA,↓reduceIte,Nat.reduceLT,Nat.reduceEqDiff,Nat.reduceAdd,Nat.reduceLeDiff,q0],by simp (disch:=first|assumption|omega|(simp (disch:=first|assumption|omega) only [sB,Nat.reduceAdd,Nat.reduceLT,Nat.reduceLeDiff,Nat.reduceEqDiff,Nat.reduceMul,↓reduceIte];done)|fail) only [sA,↓reduceIte,Nat.reduceLT,Nat.reduceEqDiff,Nat.reduceAdd,Nat.reduceLeDiff,q1],by simp (disch:=first|assumption|omega|(simp (disch:=first|assumption|omega) only [sB,Nat.reduceAdd,Nat.reduceLT,Nat.reduceLeDiff,Nat.reduceEqDiff,Nat.reduceMul,↓reduceIte];done)|fail) only [sA,↓reduceIte,Nat.reduceLT,Nat.reduceEqDiff,Nat.reduceAdd,Nat.reduceLeDiff,q6],by simp (disch:=first|assumption|omega|(simp (disch:=first|assumption|omega) only [sB,Nat.reduceAdd,Nat.reduceLT,Nat.reduceLeDiff,Nat.reduceEqDiff,Nat.reduceMul,↓reduceIte];done)|fail) only [sA,↓reduceIte,Nat.reduceLT,Nat.reduceEqDiff,Nat.reduceAdd,Nat.reduceLeDiff]⟩⟩)
    ⟨_,g1.mono (by omega),S1,fun j hj => by omega,by omega,by simp (disch:=first|assumption|omega|(simp (disch:=first|assumption|omega) only [sB,Nat.reduceAdd,Nat.reduceLT,Nat.reduceLeDiff,Nat.reduceEqDiff,Nat.reduceMul,↓reduceIte];done)|fail) only [sA,↓reduceIte,Nat.reduceLT,Nat.reduceEqDiff,Nat.reduceAdd,Nat.reduceLeDiff,q0],by simp (disch:=first|assumption|omega|(simp (disch:=first|assumption|omega) only [sB,Nat.reduceAdd,Nat.reduceLT,Nat.reduceLeDiff,Nat.reduceEqDiff,Nat.reduceMul,↓reduceIte];done)|fail) only [sA,↓reduceIte,Nat.reduceLT,Nat.reduceEqDiff,Nat.reduceAdd,Nat.reduceLeDiff,q1],by simp (disch:=first|assumption|omega|(simp (disch:=first|assumption|omega) only [sB,Nat.reduceAdd,Nat.reduceLT,Nat.reduceLeDiff,Nat.reduceEqDiff,Nat.reduceMul,↓reduceIte];done)|fail) only [sA,↓reduceIte,Nat.reduceLT,Nat.reduceEqDiff,Nat.reduceAdd,Nat.reduceLeDiff,q6],by simp (disch:=first|assumption|omega|(simp (disch:=first|assumption|omega) only [sB,Nat.reduceAdd,Nat.reduceLT,Nat.reduceLeDiff,Nat.reduceEqDiff,Nat.reduceMul,↓reduceIte];done)|fail) only [sA,↓reduceIte,Nat.reduceLT,Nat.reduceEqDiff,Nat.reduceAdd,Nat.reduceLeDiff]⟩
  have hG2 : ∀ m,n2 ≤ m → Gd m G2 := fun m hm => g2.mono hm
  have hl : N - 1 < xs.length := by omega
  have es : ((N : Nat) : Int) - 1 = ((N - 1 : Nat) : Int) := by omega
  have gd_c : ∀ {m r : Nat} {g : Hps},r < m → Gd m ((r,(Ob.row 6 [.agg [.int .i64 (conT).form,.int .i64 (conT).n,.bool (conT).hid,.str (conT).name,slD 2 encL (conT).levels,slD 6 encT (conT).kids]])) :: g) = Gd m g := fun hr => gd_tm hr
  have s1x : ∀ i : Int,sizeT1 (metaT i).abs = true := fun i => by rw [show (metaT i).abs = .mk 11 i false [] [] [] from rfl]; rfl
  cases ring with
  | false =>
    have g3 : Gd (n2 + 10) ((n2 + 2,(Ob.row 6 [.agg [.int .i64 (conT).form,.int .i64 (conT).n,.bool (conT).hid,.str (conT).name,slD 2 encL (conT).levels,slD 6 encT (conT).kids]])) :: G2) := by rw [gd_c (by omega)]; exact hG2 _ (by omega)
    obtain ⟨h3,e3,g4,S4,keep⟩ := sCon g3 (S2.cons (n := n2 + 2) (hG2 _ (by omega)) (Nat.le_refl _)) hl
    have k3 : getO h3 (n2 + 2) = (Ob.row 6 [.agg [.int .i64 (conT).form,.int .i64 (conT).n,.bool (conT).hid,.str (conT).name,slD 2 encL (conT).levels,slD 6 encT (conT).kids]]) := keep _ _ getO_hd
    have hG3 : ∀ m,n2 + 10 ≤ m → Gd m h3 := fun m hm => g4.mono hm
    rw [show N - 1 + 1 = N by omega] at S4
    have P := pPut (U := fun i => if i < N then metaT ((i : Nat) : Int) else conT) (a := N) (r := n2 + 25) (fun i hi => if_pos hi) (by omega) (fun i hi => by
      show (if i = N - 1 then conT else V i) = (if i + 1 < N then metaT ((i + 1 : Nat) : Int) else conT)
      by_cases hiN : i = N - 1
      · rw [if_pos hiN,if_neg (by omega)]
      · rw [if_neg hiN,if_pos (by omega)]; exact hV i (by omega)) (fun n h L hg S hb hL => by
        show callFn (LX (cF Try.prog)) n h [.ptr 8 0 0,(D.agg [.int .i64 ((if N < N then metaT ((N : Nat) : Int) else conT)).form,.int .i64 ((if N < N then metaT ((N : Nat) : Int) else conT)).n,.bool ((if N < N then metaT ((N : Nat) : Int) else conT)).hid,.str ((if N < N then metaT ((N : Nat) : Int) else conT)).name,slD 2 encL ((if N < N then metaT ((N : Nat) : Int) else conT)).levels,slD 6 encT ((if N < N then metaT ((N : Nat) : Int) else conT)).kids]),.ptr (n2 + 25) 0 0] (cF Try.prog 88) = _
        simp only [if_neg (Nat.lt_irrefl N)]
        exact pPutC hg S hb hL) N 0 (by omega) (n2 + 30) ((n2 + 25,.row 1 [.int .i64 40002]) :: (n2 + 17,(Ob.row 6 [.agg [.int .i64 0,.int .i64 0,.bool false,.str [],.nils,.nils]])) :: (n2 + 16,(Ob.row 6 [.agg [.int .i64 (metaT 0).form,.int .i64 (metaT 0).n,.bool (metaT 0).hid,.str (metaT 0).name,slD 2 encL (metaT 0).levels,slD 6 encT (metaT 0).kids]])) :: h3) 40002
      (fun k hk => good_cons.2 ⟨by omega,lowO_one (low_flat rfl),good_cons.2 ⟨by omega,lowO_one (low_flat rfl),good_cons.2 ⟨by omega,lowO_one (low_flat (flatTA _)),hG3 k (by omega) k (Nat.le_refl _)⟩⟩⟩)
      (((S4.cons (n := n2 + 16) (hG3 _ (by omega)) (Nat.le_refl _)).cons (n := n2 + 17) (by rw [gd_tm (by omega)]; exact hG3 _ (by omega)) (Nat.le_refl _)).cons (n := n2 + 25) (by rw [gd_zt (by omega),gd_tm (by omega)]; exact hG3 _ (by omega)) (Nat.le_refl _)) getO_hd (by omega)
    rw [setO_hd] at P
    simp only [if_neg (Nat.lt_irrefl N),if_pos (show 0 < N by omega)] at P
    have e4 := pZonk (n := n2 + 16) (hG3 _ (by omega)) (shut_meta (i := 0) (by omega)) shut_con P
    have ex := exT conT (by decide) conT rfl
    have cO : ∀ m,n2 + 21 ≤ m → callFn (LX (cF Try.prog)) m ((n2 + 20,(Ob.row 6 [.agg [.int .i64 (conT).form,.int .i64 (conT).n,.bool (conT).hid,.str (conT).name,slD 2 encL (conT).levels,slD 6 encT (conT).kids]])) :: h3) [.ptr 8 0 0] (cF Try.prog 52) = .ok .nils m ((n2 + 20,(Ob.row 6 [.agg [.int .i64 (conT).form,.int .i64 (conT).n,.bool (conT).hid,.str (conT).name,slD 2 encL (conT).levels,slD 6 encT (conT).kids]])) :: h3) := fun m hm => by
      rw [← hx] at S4
      exact pOpen (by rw [gd_c (by omega)]; exact hG3 _ (by omega)) (S4.cons (n := n2 + 20) (hG3 _ (by omega)) (Nat.le_refl _)) (by omega) (fun e => by rw [e] at hx; simp at hx; omega)
    simp (disch:=first|assumption|omega|(simp (disch:=first|assumption|omega) only [sB,Nat.reduceAdd,Nat.reduceLT,Nat.reduceLeDiff,Nat.reduceEqDiff,Nat.reduceMul,↓reduceIte,hG2,hG3,gd_c];done)|fail) only [sA,↓reduceIte,Nat.reduceLT,Nat.reduceEqDiff,Nat.reduceAdd,Nat.reduceLeDiff,conM,q0,q1,q6,es,e3,metaM,e4,k3,numM,ex,cO,F0,hG2,hG3,gd_c]
    exact ⟨_,_,rfl⟩
  | true =>
    have g3 : Gd (n2 + 17) ((n2 + 2,(Ob.row 6 [.agg [.int .i64 (appT).form,.int .i64 (appT).n,.bool (appT).hid,.str (appT).name,slD 2 encL (appT).levels,slD 6 encT (appT).kids]])) :: G2) := by rw [gd_tm (by omega)]; exact hG2 _ (by omega)
    have S3 := S2.cons (x := (Ob.row 6 [.agg [.int .i64 (appT).form,.int .i64 (appT).n,.bool (appT).hid,.str (appT).name,slD 2 encL (appT).levels,slD 6 encT (appT).kids]])) (n := n2 + 2) (hG2 _ (by omega)) (Nat.le_refl _)
    have e3 := sRing g3 S3 hl hV
    have hG3 : ∀ m,n2 + 17 ≤ m → Gd m ((n2 + 2,(Ob.row 6 [.agg [.int .i64 (appT).form,.int .i64 (appT).n,.bool (appT).hid,.str (appT).name,slD 2 encL (appT).levels,slD 6 encT (appT).kids]])) :: G2) := fun m hm => g3.mono hm
    have P := pPut (U := fun i => metaT ((i : Nat) : Int)) (a := N - 1) (r := n2 + 32) (fun i hi => rfl) (by omega) (fun i hi => hV i hi) (fun n h L hg S hb hL => pPutM (k := N - 1) hg S hl (Nat.le_refl _) hb hL) (N - 1) 0 (by omega) (n2 + 37) ((n2 + 32,.row 1 [.int .i64 40002]) :: (n2 + 24,(Ob.row 6 [.agg [.int .i64 0,.int .i64 0,.bool false,.str [],.nils,.nils]])) :: (n2 + 23,(Ob.row 6 [.agg [.int .i64 (metaT 0).form,.int .i64 (metaT 0).n,.bool (metaT 0).hid,.str (metaT 0).name,slD 2 encL (metaT 0).levels,slD 6 encT (metaT 0).kids]])) :: (n2 + 2,(Ob.row 6 [.agg [.int .i64 (appT).form,.int .i64 (appT).n,.bool (appT).hid,.str (appT).name,slD 2 encL (appT).levels,slD 6 encT (appT).kids]])) :: G2) 40002
      (fun k hk => good_cons.2 ⟨by omega,lowO_one (low_flat rfl),good_cons.2 ⟨by omega,lowO_one (low_flat rfl),good_cons.2 ⟨by omega,lowO_one (low_flat (flatTA _)),hG3 k (by omega) k (Nat.le_refl _)⟩⟩⟩)
      (((S3.cons (n := n2 + 23) (hG3 _ (by omega)) (Nat.le_refl _)).cons (n := n2 + 24) (by rw [gd_tm (by omega)]; exact hG3 _ (by omega)) (Nat.le_refl _)).cons (n := n2 + 32) (by rw [gd_zt (by omega),gd_tm (by omega)]; exact hG3 _ (by omega)) (Nat.le_refl _)) getO_hd (by omega)
    rw [setO_hd] at P
    have e4 := pZonk (n := n2 + 23) (hG3 _ (by omega)) (shut_meta (i := 0) (by omega)) (shut_meta (i := ((N - 1 : Nat) : Int)) (by omega)) P
    have ex := exT (metaT ((N - 1 : Nat) : Int)) (s1x _) (metaT ((N - 1 : Nat) : Int)) rfl
    have gd_m : ∀ {m r : Nat} {g : Hps},r < m → Gd m ((r,(Ob.row 6 [.agg [.int .i64 (metaT ((N - 1 : Nat) : Int)).form,.int .i64 (metaT ((N - 1 : Nat) : Int)).n,.bool (metaT ((N - 1 : Nat) : Int)).hid,.str (metaT ((N - 1 : Nat) : Int)).name,slD 2 encL (metaT ((N - 1 : Nat) : Int)).levels,slD 6 encT (metaT ((N - 1 : Nat) : Int)).kids]])) :: g) = Gd m g := fun hr => gd_tm hr
    have hky : ∀ m,n2 + 28 ≤ m → keysFrom m ((n2 + 27,(Ob.row 6 [.agg [.int .i64 (metaT ((N - 1 : Nat) : Int)).form,.int .i64 (metaT ((N - 1 : Nat) : Int)).n,.bool (metaT ((N - 1 : Nat) : Int)).hid,.str (metaT ((N - 1 : Nat) : Int)).name,slD 2 encL (metaT ((N - 1 : Nat) : Int)).levels,slD 6 encT (metaT ((N - 1 : Nat) : Int)).kids]])) :: (n2 + 2,(Ob.row 6 [.agg [.int .i64 (appT).form,.int .i64 (appT).n,.bool (appT).hid,.str (appT).name,slD 2 encL (appT).levels,slD 6 encT (appT).kids]])) :: G2) = [] := fun m hm => keys_gd (by rw [gd_m (by omega)]; exact hG3 m (by omega))
    simp (disch:=first|assumption|omega|(simp (disch:=first|assumption|omega) only [sB,Nat.reduceAdd,Nat.reduceLT,Nat.reduceLeDiff,Nat.reduceEqDiff,Nat.reduceMul,↓reduceIte,hG2,gd_c,hG3,gd_m,gd_nil];done)|fail) only [sA,↓reduceIte,Nat.reduceLT,Nat.reduceEqDiff,Nat.reduceAdd,Nat.reduceLeDiff,conM,q0,q1,q6,metaM,appM,es,e3,e4,numM,ex,F0,hky,hG2,gd_c,hG3,gd_m,gd_nil]
    exact ⟨_,_,rfl⟩

set_option maxRecDepth 100000 in
theorem mc_lifted (os : Os) (started : os.Started) (H : Type) (enc : TypeId × Value → H) :
    ReturnsInHanded {} Try.checked os 10 .any (Rows.metasChainSpec.pre6 enc Try.prog Try.f10 Rows.metasChainRow.domain false) (Rows.metasChainSpec.post enc Try.prog Try.f10 false true false false) := by
  refine law_lifted (K := noK) (C := Try.checked) (tb := 4) own started (by kernel_rfl) Try.func10
    (ChangeSpec.witness6 (enc := enc) (C := Try.checked) false ⟨#[],#[.int .i64 0,.bool false],[]⟩ 8 (by kernel_rfl) (by kernel_rfl) (by kernel_rfl) (by kernel_rfl))
    mixed laidOut rowed_maps full_slices (by kernel_rfl) rfl (by kernel_rfl) rfl ?_ ?_
  · intro ds hl
    match ds,hl with
    | [_,_],_ => rfl
  · intro ds l hA
    have hA : ArgsAre Try.prog [3,4] ds l := hA
    obtain ⟨x,y,f1,f2,rfl,h1,h2⟩ := args_two hA
    obtain ⟨k,e1,_⟩ := int_arg (k := .i64) (by kernel_rfl) h1
    obtain ⟨b,e2⟩ := bool_arg (by kernel_rfl) h2
    rw [e1,e2]
    exact mc_run k b

theorem MetasChain_holds : Rows.MetasChainSaid :=
  OpenClaim.holds_of_wide 10 Try.f10 rfl rfl rfl rfl rfl rfl rfl ⟨rfl,rfl,rfl,rfl,rfl⟩ rfl rfl rfl rfl rfl (by kernel_rfl) Try.func10 (by kernel_rfl)
    (of_decide_eq_true (by kernel_rfl)) (by unfold Func.isWrapper; first | (rw [if_pos (by decide +kernel)]; kernel_rfl) | (rw [if_neg (by decide +kernel)]; exact ⟨rfl,rfl⟩))
    (fun os started H enc _ => mc_lifted os started H enc)
end Go.Proofs.Ytdijijblccmfbaa
