/- The program's Map, where the function that it asks keeps a box of its own beside Map's count, and reads a third. No condition but sizes. -/
import Derived.Test.YtdijijblccmfbaaTMA
import Derived.Test.YtdijijblccmfbaaTN
set_option linter.unusedSimpArgs false
set_option linter.unusedVariables false
namespace Go.Proofs.Ytdijijblccmfbaa
open Go
open Nat (reduceAdd reduceLT reduceLeDiff reduceEqDiff reduceMul)

abbrev Does2 := Tm → Int → Option (Tm × Int)
mutual
def runN (g : Does2) : Tm → Int → Int → Tm × Int × Int
  | .mk f n hd nm ls nl fl ks sp,L,B => match g (.mk f n hd nm ls nl fl ks sp) B with
    | some x => (x.1,L - 1,x.2)
    | none => (bareT (.mk f n hd nm ls nl fl ks sp) (runNs g ks (L - 1) B).1,(runNs g ks (L - 1) B).2)
def runNs (g : Does2) : List Tm → Int → Int → List Tm × Int × Int
  | [],L,B => ([],L,B)
  | k :: ks,L,B => ((runN g k L B).1 :: (runNs g ks (runN g k L B).2.1 (runN g k L B).2.2).1,(runNs g ks (runN g k L B).2.1 (runN g k L B).2.2).2)
end
theorem runN_eq (g : Does2) (t : Tm) (L B : Int) : runN g t L B = match g t B with
    | some x => (x.1,L - 1,x.2)
    | none => (bareT t (runNs g t.kids.el (L - 1) B).1,(runNs g t.kids.el (L - 1) B).2) := by
  cases t; rw [runN]; rfl
theorem runNs_nil (g : Does2) (L B : Int) : runNs g [] L B = ([],L,B) := by rw [runNs]
theorem runNs_cons (g : Does2) (k : Tm) (ks : List Tm) (L B : Int) : runNs g (k :: ks) L B = ((runN g k L B).1 :: (runNs g ks (runN g k L B).2.1 (runN g k L B).2.2).1,(runNs g ks (runN g k L B).2.1 (runN g k L B).2.2).2) := by rw [runNs]
theorem runNs_snoc (g : Does2) (k : Tm) : ∀ (ks : List Tm) (L B : Int),runNs g (ks ++ [k]) L B = ((runNs g ks L B).1 ++ [(runN g k (runNs g ks L B).2.1 (runNs g ks L B).2.2).1],(runN g k (runNs g ks L B).2.1 (runNs g ks L B).2.2).2)
  | [],L,B => by rw [List.nil_append,runNs_cons,runNs_nil,runNs_nil]; rfl
  | a :: t,L,B => by rw [List.cons_append,runNs_cons,runNs_cons,runNs_snoc g k t]; rfl
theorem runNs_len (g : Does2) : ∀ (ks : List Tm) (L B : Int),(runNs g ks L B).1.length = ks.length
  | [],L,B => by rw [runNs_nil]
  | a :: t,L,B => by rw [runNs_cons,List.length_cons,List.length_cons,runNs_len g t]
theorem runN_low (g : Does2) : ∀ (t : Tm) (L B : Int),L - sizeT t.abs ≤ (runN g t L B).2.1 ∧ (runN g t L B).2.1 ≤ L := by
  refine Tm.ind ?_
  intro t ih L B
  have hp := sizeT_pos t.abs
  have hs := size_abs t
  rw [runN_eq]
  cases e : g t B with
  | some x => show L - _ ≤ L - 1 ∧ L - 1 ≤ L; omega
  | none =>
    have key : ∀ (ks : List Tm),(∀ k,k ∈ ks → k ∈ t.kids.el) → ∀ (L B : Int),L - sizeTs (ks.map Tm.abs) ≤ (runNs g ks L B).2.1 ∧ (runNs g ks L B).2.1 ≤ L := by
      intro ks
      induction ks with
      | nil => intro _ L B; rw [runNs_nil,List.map_nil,sizeTs_nil]; simp
      | cons k ks ihk =>
        intro hk L B
        rw [runNs_cons,List.map_cons,sizeTs_cons]
        have a1 := ih k (hk k (by simp)) L B
        have a2 := ihk (fun x hx => hk x (by simp [hx])) (runN g k L B).2.1 (runN g k L B).2.2
        show L - _ ≤ (runNs g ks _ _).2.1 ∧ (runNs g ks _ _).2.1 ≤ L
        omega
    have := key t.kids.el (fun _ h => h) (L - 1) B
    show L - _ ≤ (runNs g t.kids.el (L - 1) B).2.1 ∧ (runNs g t.kids.el (L - 1) B).2.1 ≤ L
    omega
theorem runNs_low (g : Does2) : ∀ (ks : List Tm) (L B : Int),L - sizeTs (ks.map Tm.abs) ≤ (runNs g ks L B).2.1 ∧ (runNs g ks L B).2.1 ≤ L
  | [],L,B => by rw [runNs_nil,List.map_nil,sizeTs_nil]; simp
  | k :: ks,L,B => by
    rw [runNs_cons,List.map_cons,sizeTs_cons]
    have a1 := runN_low g k L B
    have a2 := runNs_low g ks (runN g k L B).2.1 (runN g k L B).2.2
    show L - _ ≤ (runNs g ks _ _).2.1 ∧ (runNs g ks _ _).2.1 ≤ L
    omega
theorem runNs_take (g : Does2) (L B : Int) {ks : List Tm} {i : Nat} (hi : i < ks.length) : runNs g (ks.take (i + 1)) L B = ((runNs g (ks.take i) L B).1 ++ [(runN g ks[i] (runNs g (ks.take i) L B).2.1 (runNs g (ks.take i) L B).2.2).1],(runN g ks[i] (runNs g (ks.take i) L B).2.1 (runNs g (ks.take i) L B).2.2).2) := by
  rw [List.take_succ_eq_append_getElem hi,runNs_snoc]

def Cn2 (r q p : Nat) (A : D) (L B : Int) (h h' : Hps) : Prop := Upd [p,q,r] h h' ∧ getO h' r = .row 1 [.int .i64 L] ∧ getO h' q = .row 1 [.int .i64 B] ∧ getO h' p = .row 1 [A]
theorem Cn2.trans {r q p : Nat} {A : D} {L B L2 B2 : Int} {h h1 h2 : Hps} (a : Cn2 r q p A L B h h1) (b : Cn2 r q p A L2 B2 h1 h2) : Cn2 r q p A L2 B2 h h2 := ⟨a.1.trans b.1,b.2⟩
theorem Cn2.set {r q p : Nat} {A : D} {L L2 B : Int} {h : Hps} (hqr : q ≠ r) (hpr : p ≠ r) (hb : getO h r = .row 1 [.int .i64 L]) (hbq : getO h q = .row 1 [.int .i64 B]) (hbp : getO h p = .row 1 [A]) : Cn2 r q p A L2 B h (setO h r (.row 1 [.int .i64 L2])) :=
  ⟨Upd.set (by simp) (by rw [hb]; simp) boxI,getO_setO_same (by rw [hb]; simp),by rw [getO_setO _ _ _ _ (by rw [hb]; simp),if_neg hqr]; exact hbq,by rw [getO_setO _ _ _ _ (by rw [hb]; simp),if_neg hpr]; exact hbp⟩
theorem Cn2.hp {r q p n m : Nat} {A : D} {L B : Int} {hb g g1 : Hps} (H : Hp n hb m g) (U : Cn2 r q p A L B g g1) (hS : ∀ x,x ∈ [p,q,r] → x < n) (hr : r < n) (hq : q < n) (hp : p < n) : ∃ hb1,Hp n hb1 m g1 ∧ Cn2 r q p A L B hb hb1 := by
  obtain ⟨hb1,h1,h2,h3⟩ := Upd.hp H U.1 hS
  exact ⟨hb1,h1,h2,(h3 r hr).trans U.2.1,(h3 q hq).trans U.2.2.1,(h3 p hp).trans U.2.2.2⟩
def Does2Ok (c : D) (r q p : Nat) (A : D) (g : Does2) : Prop := ∀ t : Tm,slimT t.abs = true → ∀ d B : Int,0 ≤ d → d ≤ 1000000 → ∀ (n : Nat) (h : Hps) (L : Int),Gd n h → r < n → q < n → p < n → getO h r = .row 1 [.int .i64 L] → getO h q = .row 1 [.int .i64 B] → getO h p = .row 1 [A] →
  (g t B = none → callX (cF Try.prog) (LX (cF Try.prog)) n h c [(D.agg [.int .i64 (t).form,.int .i64 (t).n,.bool (t).hid,.str (t).name,slD 2 encL (t).levels,slD 6 encT (t).kids]),.int .i64 d] = .ok (.tup [(D.agg [.int .i64 0,.int .i64 0,.bool false,.str [],.nils,.nils]),.bool false]) n h) ∧ ∀ x,g t B = some x → ∃ h',callX (cF Try.prog) (LX (cF Try.prog)) n h c [(D.agg [.int .i64 (t).form,.int .i64 (t).n,.bool (t).hid,.str (t).name,slD 2 encL (t).levels,slD 6 encT (t).kids]),.int .i64 d] = .ok (.tup [encT x.1,.bool true]) n h' ∧ Cn2 r q p A L x.2 h h'
theorem reach_step {h : Hps} {f a : Nat} {t seen : List Nat} (hm : memN a seen = false) : reach h (f + 1) (a :: t) seen = reach h f (appN (rdOb (getO h a)) t) (a :: seen) := by
  show Bool.rec (motive := fun _ => List Nat) _ _ (memN a seen) = _
  rw [hm]; rfl
theorem reach2 {h : Hps} {r q p k : Nat} {t : Tm} {d x y : Int} {c A : D} (hqr : q ≠ r) (hpr : p ≠ r) (hpq : p ≠ q) (hArd : rd 20 A = []) (hb : getO h r = .row 1 [.int .i64 x]) (hbq : getO h q = .row 1 [.int .i64 y]) (hbp : getO h p = .row 1 [A]) (hc : rd 20 c = [q,p]) : reachC h [(D.agg [.int .i64 (t).form,.int .i64 (t).n,.bool (t).hid,.str (t).name,slD 2 encL (t).levels,slD 6 encT (t).kids]),.int .i64 d,.ptr r 0 0,c] (.fn k [] []) = [p,q,r] := by
  show reach h (4095 + 1) (appN (appN (rd (18 + 2) (D.agg [.int .i64 (t).form,.int .i64 (t).n,.bool (t).hid,.str (t).name,slD 2 encL (t).levels,slD 6 encT (t).kids])) (appN [] (appN [r] (appN (rd 20 c) [])))) []) [] = _
  rw [rdT,hc]
  show reach h (4095 + 1) [r,q,p] [] = _
  rw [reach_step rfl,hb]
  show reach h (4094 + 1) [q,p] [r] = _
  rw [reach_step (by rw [memN_cons,decide_eq_false (fun e => hqr e.symm)]; rfl),hbq]
  show reach h (4093 + 1) [p] [q,r] = _
  rw [reach_step (by rw [memN_cons,memN_cons,decide_eq_false (fun e => hpq e.symm),decide_eq_false (fun e => hpr e.symm)]; rfl),hbp]
  show reach h (4092 + 1) (appN (appN (rd 20 A) []) []) [p,q,r] = _
  rw [hArd]
  rfl
theorem sub2 {call : CallF} {m r q p k : Nat} {h gg : Hps} {t v : Tm} {d L B L2 B2 : Int} {c A : D} (hA : Boxed (.row 1 [A])) (hb : getO h r = .row 1 [.int .i64 L]) (hbq : getO h q = .row 1 [.int .i64 B]) (hbp : getO h p = .row 1 [A]) (hr : r ≤ m) (hq : q ≤ m) (hp : p ≤ m) (hci : inD (fun x => memN x [p,q,r]) 20 c = true)
    (hcall : call (m + 1) [(p,.row 1 [A]),(q,.row 1 [.int .i64 B]),(r,.row 1 [.int .i64 L])] (.fn k [] []) [(D.agg [.int .i64 (t).form,.int .i64 (t).n,.bool (t).hid,.str (t).name,slD 2 encL (t).levels,slD 6 encT (t).kids]),.int .i64 d,.ptr r 0 0,c] = .ok (encT v) (m + 1) gg) (U : Cn2 r q p A L2 B2 [(p,.row 1 [A]),(q,.row 1 [.int .i64 B]),(r,.row 1 [.int .i64 L])] gg) :
    ∃ g1,subC call [p,q,r] m h (.fn k [] []) [(D.agg [.int .i64 (t).form,.int .i64 (t).n,.bool (t).hid,.str (t).name,slD 2 encL (t).levels,slD 6 encT (t).kids]),.int .i64 d,.ptr r 0 0,c] = .ok (encT v) (m + 1) g1 ∧ Cn2 r q p A L2 B2 h g1 := by
  have es : subH [p,q,r] h = [(p,.row 1 [A]),(q,.row 1 [.int .i64 B]),(r,.row 1 [.int .i64 L])] := by
    show [(p,getO h p),(q,getO h q),(r,getO h r)] = _
    rw [hb,hbq,hbp]
  have hcases : ∀ {P : Nat → Prop},P p → P q → P r → ∀ x,x ∈ [p,q,r] → P x := fun h1 h2 h3 x hx => by
    rcases List.mem_cons.1 hx with rfl | hx
    · exact h1
    · rcases List.mem_cons.1 hx with rfl | hx
      · exact h2
      · rw [List.mem_singleton.1 hx]; exact h3
  obtain ⟨g1,h1,h2,h3⟩ := sub_upd (call := call) (S := [p,q,r]) (m := m) (h := h) (f := .fn k [] []) (args := [(D.agg [.int .i64 (t).form,.int .i64 (t).n,.bool (t).hid,.str (t).name,slD 2 encL (t).levels,slD 6 encT (t).kids]),.int .i64 d,.ptr r 0 0,c]) (hcases hp hq hr) (hcases (by rw [hbp]; exact hA) (by rw [hbq]; exact boxI) (by rw [hb]; exact boxI)) rfl
    (by rw [allL_eq,List.all_cons,List.all_cons,List.all_cons,List.all_cons,List.all_nil,← encT_eq,inT,hci,in_int,in_ptr,memN_mem (by simp)]; rfl) inT (by rw [es]; exact hcall) (by rw [es]; exact U.1)
    (hcases (by rw [U.2.2.2]; simp) (by rw [U.2.2.1]; simp) (by rw [U.2.1]; simp))
  exact ⟨g1,h1,h2,(h3 r (by simp)).trans U.2.1,(h3 q (by simp)).trans U.2.2.1,(h3 p (by simp)).trans U.2.2.2⟩
set_option maxHeartbeats 8000000 in
set_option maxRecDepth 8000 in
theorem mapRun2 {c : D} {r q p : Nat} {A : D} {g : Does2} (hqr : q ≠ r) (hpr : p ≠ r) (hpq : p ≠ q) (hA : Boxed (.row 1 [A])) (hArd : rd 20 A = []) (hc : rd 20 c = [q,p]) (hci : inD (fun x => memN x [p,q,r]) 20 c = true) (hD : Does2Ok c r q p A g) : ∀ t : Tm,slimT t.abs = true → ∀ d L B : Int,0 ≤ d → d + highT t.abs ≤ 1000000 → sizeT t.abs ≤ L → L ≤ 10000000000000 → ∀ (n : Nat) (h : Hps),Gd n h → r < n → q < n → p < n → getO h r = .row 1 [.int .i64 L] → getO h q = .row 1 [.int .i64 B] → getO h p = .row 1 [A] →
    ∃ h',callFn (LX (cF Try.prog)) n h [(D.agg [.int .i64 (t).form,.int .i64 (t).n,.bool (t).hid,.str (t).name,slD 2 encL (t).levels,slD 6 encT (t).kids]),.int .i64 d,.ptr r 0 0,c] (cF Try.prog 91) = .ok (encT (runN g t L B).1) n h' ∧ Cn2 r q p A (runN g t L B).2.1 (runN g t L B).2.2 h h' := by
  refine Tm.ind ?_
  intro t ih hsl d L B hd0 hd hL1 hL2 n h hg hr hq hp hb hbq hbp
  have hSn : ∀ x,x ∈ [p,q,r] → x < n := fun x hx => by (rcases List.mem_cons.1 hx with rfl | hx; exact hp; rcases List.mem_cons.1 hx with rfl | hx; exact hq; rw [List.mem_singleton.1 hx]; exact hr)
  have nin : ∀ x,n ≤ x → x ∉ [p,q,r] := fun x hx hm => by have := hSn x hm; omega
  obtain ⟨hk,hv,hth,hks⟩ := slim_tm hsl
  have hgn := hg n (Nat.le_refl _)
  have hhp := highT_pos t.abs
  have hsz := sizeT_pos t.abs
  have U1 : Cn2 r q p A (L - 1) B h (setO h r (.row 1 [.int .i64 (L - 1)])) := Cn2.set hqr hpr hb hbq hbp
  generalize hh1 : setO h r (.row 1 [.int .i64 (L - 1)]) = h1 at U1
  have g1 := U1.1.gd hSn hg
  obtain ⟨_,b1,b2,b3⟩ := id U1
  have HX : ∀ hx X,Gd n hx → flat X = true → Hp n hx (n + 2) ((n + 1,.row 6 [X]) :: (n,(Ob.row 6 [.agg [.int .i64 (t).form,.int .i64 (t).n,.bool (t).hid,.str (t).name,slD 2 encL (t).levels,slD 6 encT (t).kids]])) :: hx) := fun hx X gx fx => ((Hp.start gx).box (r := n) (m := n + 1) (Nat.le_refl _) (by omega) (flatTA t)).box (r := n + 1) (m := n + 2) (by omega) (by omega) fx
  have HP : ∀ hx,Gd n hx → Hp n hx (n + 2) ((n + 1,(Ob.row 6 [.agg [.int .i64 0,.int .i64 0,.bool false,.str [],.nils,.nils]])) :: (n,(Ob.row 6 [.agg [.int .i64 (t).form,.int .i64 (t).n,.bool (t).hid,.str (t).name,slD 2 encL (t).levels,slD 6 encT (t).kids]])) :: hx) := fun hx gx => HX hx _ gx rfl
  have h0 : ¬ L - 1 < 0 := by omega
  rw [runN_eq]
  ·
    have D0 := hD t hsl d B hd0 (by omega) (n + 16) ((n + 1,(Ob.row 6 [.agg [.int .i64 0,.int .i64 0,.bool false,.str [],.nils,.nils]])) :: (n,(Ob.row 6 [.agg [.int .i64 (t).form,.int .i64 (t).n,.bool (t).hid,.str (t).name,slD 2 encL (t).levels,slD 6 encT (t).kids]])) :: h1) (L - 1) (fun k hk => (HP h1 g1).good k (by omega)) (by omega) (by omega) (by omega) (by rw [getO_tl (by omega),getO_tl (by omega)]; exact b1) (by rw [getO_tl (by omega),getO_tl (by omega)]; exact b2) (by rw [getO_tl (by omega),getO_tl (by omega)]; exact b3)
    cases hgt : g t B with
    | some x =>
      obtain ⟨h2,e2,U2⟩ := D0.2 x hgt
      rw [encT_eq] at e2
      have w1 : getO h2 (n + 1) = (Ob.row 6 [.agg [.int .i64 0,.int .i64 0,.bool false,.str [],.nils,.nils]]) := by rw [U2.1.2.1 _ (nin _ (by omega)),getO_hd]
      have w2 : ∀ X,getO (setO h2 (n + 1) X) (n + 1) = X := fun X => getO_setO_same (by rw [w1]; simp)
      obtain ⟨hb1,H2,V2⟩ := Cn2.hp ((HP h1 g1).mono (show n + 2 ≤ n + 16 by omega)) U2 hSn hr hq hp
      refine ⟨hb1,?_,U1.trans V2⟩
      show _ = Rd.ok (encT x.1) n hb1
      rw [encT_eq]
      rw [f91_eq]; unfold c91; rw [callFn_eq (by rfl)]
      simp (disch:=first|assumption|omega|(simp (disch:=first|assumption|omega) only [sB,reduceAdd,reduceLT,reduceLeDiff,reduceEqDiff,reduceMul,↓reduceIte];done)|fail) only [sA,↓reduceIte,reduceLT,reduceEqDiff,reduceAdd,reduceLeDiff,hb,hh1,b1,h0,e2,w1,w2]
      exact finish_flat (flatTA x.1) ((H2.set (r := n + 1) (by omega) (fun k hk => lowO_one (low_flat (flatTA _)))).box (r := n + 20) (m := n + 26) (by omega) (by omega) (flatTA x.1))
    | none =>
      have e2 := D0.1 hgt
      have hG1 : ∀ m,n ≤ m → Gd m h1 := fun m hm => g1.mono hm
      have c1 : ∀ m h,Gd m h → callFn (LX (cF Try.prog)) m h [(D.agg [.int .i64 (t).form,.int .i64 (t).n,.bool (t).hid,.str (t).name,slD 2 encL (t).levels,slD 6 encT (t).kids])] (cF Try.prog 118) = .ok (encT (bareT t [])) m h := fun m h hg => pBare m h hg t hth
      obtain ⟨bn,bh,bs,bl,hbt⟩ : ∃ bn bh bs bl,∀ ks,bareT t ks = .mk t.form bn bh bs bl true false ks [] := ⟨_,_,_,_,fun _ => rfl⟩
      have ebt : encT (bareT t []) = .agg [.int .i64 t.form,.int .i64 bn,.bool bh,.str bs,slD 2 encL bl,.nils] := by rw [hbt]; rfl
      rw [ebt] at c1
      by_cases hkn : t.kids.el = []
      · rw [hkn,runNs_nil]
        refine ⟨h1,?_,U1⟩
        show _ = Rd.ok (encT (bareT t [])) n h1
        rw [ebt]
        have hlen : t.kids.el.length = 0 := by rw [hkn]; rfl
        rw [f91_eq]; unfold c91; rw [callFn_eq (by rfl)]
        simp (disch:=first|assumption|omega|(simp (disch:=first|assumption|omega) only [sB,reduceAdd,reduceLT,reduceLeDiff,reduceEqDiff,reduceMul,↓reduceIte,gd_tm,gd_zt,hG1];done)|fail) only [sA,↓reduceIte,reduceLT,reduceEqDiff,reduceAdd,reduceLeDiff,hb,hh1,b1,h0,e2,c1,hlen,LX_loop,gd_tm,gd_zt,hG1]
        unfold l91_0
        simp (disch:=first|assumption|omega|(simp (disch:=first|assumption|omega) only [sB,reduceAdd,reduceLT,reduceLeDiff,reduceEqDiff,reduceMul,↓reduceIte];done)|fail) only [sA,↓reduceIte,reduceLT,reduceEqDiff,reduceAdd,reduceLeDiff]
        have fb : flat (.agg [.int .i64 t.form,.int .i64 bn,.bool bh,.str bs,slD 2 encL bl,.nils]) = true := by rw [← ebt]; exact flatT _
        exact finish_flat fb ((((HX h1 _ g1 fb).box (r := n + 20) (m := n + 21) (by omega) (by omega) rfl).box (r := n + 27) (m := n + 40) (by omega) (by omega) fb))
      · have hlen : 0 < t.kids.el.length := List.length_pos_iff.2 hkn
        have hlen2 : (0 : Int) < (t.kids.el.length : Nat) := by omega
        have fb : flat (.agg [.int .i64 t.form,.int .i64 bn,.bool bh,.str bs,slD 2 encL bl,.nils]) = true := by rw [← ebt]; exact flatT _
        have hms : ∀ k,n + 37 ≤ k → lowO k (.row 6 [.agg [.int .i64 t.form,.int .i64 bn,.bool bh,.str bs,slD 2 encL bl,.ms 6 (n + 36) 0 t.kids.el.length false]]) := fun k hk => lowO_one (low_tms (by omega))
        have hz6 : (List.replicate t.kids.el.length zeroT).map encT = List.replicate t.kids.el.length (D.agg [.int .i64 0,.int .i64 0,.bool false,.str [],.nils,.nils]) := by rw [List.map_replicate,enc_zero]
        have HI : Hp n h1 (n + 37) ((n + 36,.row 6 (List.replicate t.kids.el.length (D.agg [.int .i64 0,.int .i64 0,.bool false,.str [],.nils,.nils]))) :: (n + 27,.row 6 [.agg [.int .i64 t.form,.int .i64 bn,.bool bh,.str bs,slD 2 encL bl,.ms 6 (n + 36) 0 t.kids.el.length false]]) :: (n + 20,(Ob.row 6 [.agg [.int .i64 0,.int .i64 0,.bool false,.str [],.nils,.nils]])) :: (n + 1,(Ob.row 6 [.agg [.int .i64 0,.int .i64 0,.bool false,.str [],.nils,.nils]])) :: (n,(Ob.row 6 [.agg [.int .i64 (t).form,.int .i64 (t).n,.bool (t).hid,.str (t).name,slD 2 encL (t).levels,slD 6 encT (t).kids]])) :: h1) := by
          have := ((((HP h1 g1).box (r := n + 20) (m := n + 21) (k := 6) (d := (D.agg [.int .i64 0,.int .i64 0,.bool false,.str [],.nils,.nils])) (by omega) (by omega) rfl).box (r := n + 27) (m := n + 28) (k := 6) (by omega) (by omega) fb).cons (r := n + 36) (m := n + 37) (o := .row 6 (List.replicate t.kids.el.length (D.agg [.int .i64 0,.int .i64 0,.bool false,.str [],.nils,.nils]))) (by omega) (by omega) (fun k _ => by rw [← hz6]; exact lowO_map (fun x => low_flat (flatT x)))).set (r := n + 27) (by omega) hms
          rw [setO_tl (by omega),setO_hd] at this
          exact this
        rw [f91_eq]; unfold c91; rw [callFn_eq (by rfl)]
        simp (disch:=first|assumption|omega|(simp (disch:=first|assumption|omega) only [sB,reduceAdd,reduceLT,reduceLeDiff,reduceEqDiff,reduceMul,↓reduceIte,gd_tm,gd_zt,hG1];done)|fail) only [sA,↓reduceIte,reduceLT,reduceEqDiff,reduceAdd,reduceLeDiff,hb,hh1,b1,h0,e2,c1,hlen2,mksl_eq,gd_tm,gd_zt,hG1]
        generalize hR : LX (cF Try.prog) (.loop l91_0) _ _ _ = R
        obtain ⟨z,ez,nz,G,rfl,rfl,hbz,Hz,Vz,zn,z1,z27,z36,q8,q11⟩ := loop_up hR t.kids.el.length
          (fun i e n' G => n + 37 ≤ n' ∧ (∃ hb',Hp n hb' n' G ∧ Cn2 r q p A (runNs g (t.kids.el.take i) (L - 1) B).2.1 (runNs g (t.kids.el.take i) (L - 1) B).2.2 h1 hb') ∧ getO G n = (Ob.row 6 [.agg [.int .i64 (t).form,.int .i64 (t).n,.bool (t).hid,.str (t).name,slD 2 encL (t).levels,slD 6 encT (t).kids]]) ∧ getO G (n + 1) = (Ob.row 6 [.agg [.int .i64 0,.int .i64 0,.bool false,.str [],.nils,.nils]]) ∧ getO G (n + 27) = .row 6 [.agg [.int .i64 t.form,.int .i64 bn,.bool bh,.str bs,slD 2 encL bl,.ms 6 (n + 36) 0 t.kids.el.length false]] ∧
            getO G (n + 36) = .row 6 (((runNs g (t.kids.el.take i) (L - 1) B).1 ++ List.replicate (t.kids.el.length - i) zeroT).map encT) ∧
            get (po 1) e = .int .i64 d ∧ get (po 2) e = .ptr r 0 0 ∧ get (po 3) e = c ∧ get (po 4) e = .ptr n 0 0 ∧ get (po 8) e = .ptr (n + 1) 0 0 ∧ get (po 11) e = .ptr (n + 27) 0 0 ∧ get (po 45) e = slD 6 encT t.kids ∧ get (po 46) e = .int .i64 (t.kids.el.length : Nat) ∧ get (po 47) e = .int .i64 (i : Nat))
          (fun z e n' G => z = .exit 0 ∧ ∃ hb',Hp n hb' n' G ∧ Cn2 r q p A (runNs g t.kids.el (L - 1) B).2.1 (runNs g t.kids.el (L - 1) B).2.2 h1 hb' ∧ getO G n = (Ob.row 6 [.agg [.int .i64 (t).form,.int .i64 (t).n,.bool (t).hid,.str (t).name,slD 2 encL (t).levels,slD 6 encT (t).kids]]) ∧ getO G (n + 1) = (Ob.row 6 [.agg [.int .i64 0,.int .i64 0,.bool false,.str [],.nils,.nils]]) ∧ getO G (n + 27) = .row 6 [.agg [.int .i64 t.form,.int .i64 bn,.bool bh,.str bs,slD 2 encL bl,.ms 6 (n + 36) 0 t.kids.el.length false]] ∧
            getO G (n + 36) = .row 6 ((runNs g t.kids.el (L - 1) B).1.map encT) ∧ get (po 8) e = .ptr (n + 1) 0 0 ∧ get (po 11) e = .ptr (n + 27) 0 0)
          (by
            rintro e n' G ⟨p1,⟨hb',H,V⟩,zn,z1,z27,z36,q1,q2,q3,q4,q8,q11,q45,q46,q47⟩
            rw [List.take_length] at V z36
            rw [Nat.sub_self,List.replicate_zero,List.append_nil] at z36
            unfold l91_0
            simp (disch:=first|assumption|omega|(simp (disch:=first|assumption|omega) only [sB,reduceAdd,reduceLT,reduceLeDiff,reduceEqDiff,reduceMul,↓reduceIte];done)|fail) only [sA,↓reduceIte,reduceLT,reduceEqDiff,reduceAdd,reduceLeDiff,q46,q47]
            exact ⟨_,_,_,_,rfl,by simp,rfl,hb',H.mono (by omega),V,zn,z1,z27,z36,by simp +decide only [sG,q8],by simp +decide only [sG,q11]⟩)
          (by
            rintro i e n' G hi ⟨p1,⟨hb',H,V⟩,zn,z1,z27,z36,q1,q2,q3,q4,q8,q11,q45,q46,q47⟩
            have gk : ∀ m,n' ≤ m → Gd m G := fun m hm k hk => H.good k (by omega)
            have hu := undr_low t.form i d
            have hu2 := undr_le t.form i d
            have hkh := high_kid (t := t) (List.getElem_mem hi)
            have c3 : ∀ m,callFn (LX (cF Try.prog)) m [] [.int .i64 t.form,.int .i64 (i : Nat),.int .i64 d] (cF Try.prog 119) = .ok (.int .i64 (undr t.form i d)) m [] := fun m => pUnder m [] (fun _ _ => good_nil) t.form i d (by omega)
            have hlow := runNs_low g (t.kids.el.take i) (L - 1) B
            rw [runNs_take g (L - 1) B hi]
            generalize hW : t.kids.el[i] = W at hkh
            generalize hSe : runNs g (t.kids.el.take i) (L - 1) B = S at V z36 hlow ⊢
            have eW : encT t.kids.el[i] = (D.agg [.int .i64 (W).form,.int .i64 (W).n,.bool (W).hid,.str (W).name,slD 2 encL (W).levels,slD 6 encT (W).kids]) := by rw [hW,encT_eq]
            have hGr : getO G r = .row 1 [.int .i64 S.2.1] := by rw [H.get hr]; exact V.2.1
            have hGq : getO G q = .row 1 [.int .i64 S.2.2] := by rw [H.get hq]; exact V.2.2.1
            have hGp : getO G p = .row 1 [A] := by rw [H.get hp]; exact V.2.2.2
            have H5 : Hp n hb' (n' + 5) ((n' + 4,(Ob.row 6 [.agg [.int .i64 (W).form,.int .i64 (W).n,.bool (W).hid,.str (W).name,slD 2 encL (W).levels,slD 6 encT (W).kids]])) :: G) := H.box (r := n' + 4) (m := n' + 5) (by omega) (by omega) (flatTA W)
            have hG5 : getO ((n' + 4,(Ob.row 6 [.agg [.int .i64 (W).form,.int .i64 (W).n,.bool (W).hid,.str (W).name,slD 2 encL (W).levels,slD 6 encT (W).kids]])) :: G) r = .row 1 [.int .i64 S.2.1] := by rw [getO_tl (by omega)]; exact hGr
            have hG6 : getO ((n' + 4,(Ob.row 6 [.agg [.int .i64 (W).form,.int .i64 (W).n,.bool (W).hid,.str (W).name,slD 2 encL (W).levels,slD 6 encT (W).kids]])) :: G) q = .row 1 [.int .i64 S.2.2] := by rw [getO_tl (by omega)]; exact hGq
            have hG7 : getO ((n' + 4,(Ob.row 6 [.agg [.int .i64 (W).form,.int .i64 (W).n,.bool (W).hid,.str (W).name,slD 2 encL (W).levels,slD 6 encT (W).kids]])) :: G) p = .row 1 [A] := by rw [getO_tl (by omega)]; exact hGp
            have hreach : reachC ((n' + 4,(Ob.row 6 [.agg [.int .i64 (W).form,.int .i64 (W).n,.bool (W).hid,.str (W).name,slD 2 encL (W).levels,slD 6 encT (W).kids]])) :: G) [(D.agg [.int .i64 (W).form,.int .i64 (W).n,.bool (W).hid,.str (W).name,slD 2 encL (W).levels,slD 6 encT (W).kids]),.int .i64 (undr t.form i d),.ptr r 0 0,c] (.fn 91 [] []) = [p,q,r] := reach2 hqr hpr hpq hArd hG5 hG6 hG7 hc
            have hky : ∀ m,n' + 5 ≤ m → keysFrom m ((n' + 4,(Ob.row 6 [.agg [.int .i64 (W).form,.int .i64 (W).n,.bool (W).hid,.str (W).name,slD 2 encL (W).levels,slD 6 encT (W).kids]])) :: G) = [] := fun m hm => keys_low (H5.good m hm)
            have hrd : rfL (rd 20) [(D.agg [.int .i64 (W).form,.int .i64 (W).n,.bool (W).hid,.str (W).name,slD 2 encL (W).levels,slD 6 encT (W).kids]),.int .i64 (undr t.form i d),.ptr r 0 0,c] = [r,q,p] := by
              show appN (rd (18 + 2) (D.agg [.int .i64 (W).form,.int .i64 (W).n,.bool (W).hid,.str (W).name,slD 2 encL (W).levels,slD 6 encT (W).kids])) (appN [] (appN [r] (appN (rd 20 c) []))) = _
              rw [rdT,hc]; rfl
            have hWm : W ∈ t.kids.el := by rw [← hW]; exact List.getElem_mem hi
            have hszW : sizeTs ((t.kids.el.take i).map Tm.abs) + sizeT W.abs ≤ sizeTs (t.kids.el.map Tm.abs) := by
              have := size_take hi
              rw [hW] at this
              have := size_take_le t.kids.el (i + 1)
              omega
            have hszX := size_abs t
            have hsz2 := size_take_le t.kids.el i
            obtain ⟨gg,k1,k2⟩ := ih W hWm (hks W hWm) (undr t.form i d) S.2.1 S.2.2 (by omega) (by omega) (by omega) (by omega) (n' + 12094627905543 + 1) [(p,.row 1 [A]),(q,.row 1 [.int .i64 S.2.2]),(r,.row 1 [.int .i64 S.2.1])] (fun k hk => good_cons.2 ⟨by omega,hA.low k,good_cons.2 ⟨by omega,lowI,good_cons.2 ⟨by omega,lowI,good_nil⟩⟩⟩) (by omega) (by omega) (by omega) (by rw [getO_tl (by omega),getO_tl (by omega),getO_hd]) (by rw [getO_tl (by omega),getO_hd]) getO_hd
            obtain ⟨G1,e5,V5⟩ := sub2 (call := callX (cF Try.prog) (LX (cF Try.prog))) (m := n' + 12094627905543) (k := 91) (v := (runN g W S.2.1 S.2.2).1) (t := W) (d := undr t.form i d) hA hG5 hG6 hG7 (by omega) (by omega) (by omega) hci (by rw [callX_fn]; exact k1) k2
            generalize runN g W S.2.1 S.2.2 = X at e5 V5 ⊢
            rw [encT_eq X.1] at e5
            have gG1 : ∀ m,n' + 5 ≤ m → GoodAt m G1 := fun m hm => V5.1.gd (fun x hx => by have := hSn x hx; omega) (fun k hk => H5.good k (by omega)) m hm
            have hky1 : ∀ m,n' + 5 ≤ m → keysFrom m G1 = [] := fun m hm => keys_low (gG1 m hm)
            have y36 : getO G1 (n + 36) = .row 6 ((S.1 ++ List.replicate (t.kids.el.length - i) zeroT).map encT) := by rw [V5.1.2.1 _ (nin _ (by omega)),getO_tl (by omega)]; exact z36
            have hS1 : S.1.length = i := by rw [← hSe,runNs_len,List.length_take]; omega
            have hli : i < (S.1 ++ List.replicate (t.kids.el.length - i) zeroT).length := by rw [List.length_append,List.length_replicate,hS1]; omega
            unfold l91_0
            simp (disch:=first|assumption|omega|(simp (disch:=first|assumption|omega) only [sB,reduceAdd,reduceLT,reduceLeDiff,reduceEqDiff,reduceMul,↓reduceIte];done)|fail) only [sA,↓reduceIte,reduceLT,reduceEqDiff,reduceAdd,reduceLeDiff,q1,q2,q3,q4,q8,q11,q45,q46,q47,c3,eW,zn,z27,hrd,hreach,hky,e5,hky1,y36,apartR_cons,iaddr_ms,store_tm]
            obtain ⟨hb2,H2,V2⟩ := Cn2.hp H5 V5 hSn hr hq hp
            have hset : (S.1 ++ List.replicate (t.kids.el.length - i) zeroT).set i X.1 = S.1 ++ [X.1] ++ List.replicate (t.kids.el.length - (i + 1)) zeroT := by
              rw [show t.kids.el.length - i = (t.kids.el.length - (i + 1)) + 1 by omega,List.replicate_succ,List.set_append_right _ _ (by omega),hS1,Nat.sub_self]
              simp
            have yk : ∀ x,x < n + 36 → n ≤ x → getO G1 x = getO G x := fun x hx hxn => by rw [V5.1.2.1 _ (nin _ hxn),getO_tl (by omega)]
            refine ⟨_,_,_,_,rfl,.inl ⟨rfl,by omega,⟨hb2,(H2.set (r := n + 36) (by omega) (fun k hk => lowO_map (fun x => low_flat (flatT x)))).mono (by omega),V.trans V2⟩,getO_set2 y36 ((yk n (by omega) (by omega)).trans zn) (by omega),getO_set2 y36 ((yk (n + 1) (by omega) (by omega)).trans z1) (by omega),getO_set2 y36 ((yk (n + 27) (by omega) (by omega)).trans z27) (by omega),?_,by simp +decide only [sG,q1],by simp +decide only [sG,q2],by simp +decide only [sG,q3],by simp +decide only [sG,q4],by simp +decide only [sG,q8],by simp +decide only [sG,q11],by simp +decide only [sG,q45],by simp +decide only [sG,q46],by simp +decide only [sG]⟩⟩
            rw [getO_set1 y36,hset])
          ⟨by omega,⟨h1,HI.mono (by omega),by rw [List.take_zero,runNs_nil]; exact ⟨Upd.refl,b1,b2,b3⟩⟩,by rw [getO_tl (by omega),getO_tl (by omega),getO_tl (by omega),getO_tl (by omega),getO_hd],by rw [getO_tl (by omega),getO_tl (by omega),getO_tl (by omega),getO_hd],by rw [getO_tl (by omega),getO_hd],by rw [getO_hd,List.take_zero,runNs_nil,List.nil_append,Nat.sub_zero,hz6],by simp +decide only [sG],by simp +decide only [sG],by simp +decide only [sG],by simp +decide only [sG],by simp +decide only [sG],by simp +decide only [sG],by simp +decide only [sG],by simp +decide only [sG],by simp (disch:=first|assumption|omega|(simp (disch:=first|assumption|omega) only [sB,reduceAdd,reduceLT,reduceLeDiff,reduceEqDiff,reduceMul,↓reduceIte];done)|fail) only [sA,↓reduceIte,reduceLT,reduceEqDiff,reduceAdd,reduceLeDiff]⟩
        refine ⟨hbz,?_,U1.trans Vz⟩
        have hkl : (runNs g t.kids.el (L - 1) B).1.length = t.kids.el.length := runNs_len g t.kids.el (L - 1) B
        generalize (runNs g t.kids.el (L - 1) B).1 = ks at z36 hkl ⊢
        have eks : encT (bareT t ks) = .agg [.int .i64 t.form,.int .i64 bn,.bool bh,.str bs,slD 2 encL bl,slD 6 encT (Sl.app ks)] := by rw [hbt]; exact encT_eq _
        rw [eks]
        have w2 : ∀ X,getO (setO G (n + 1) X) (n + 1) = X := fun X => getO_setO_same (by rw [z1]; simp)
        have BL : ∀ X,Bld 6 encT n ks (setO G (n + 1) X) (.ms 6 (n + 36) 0 t.kids.el.length false) := fun X => by
          rw [← hkl]
          exact .inr ⟨n + 36,by intro e; rw [e,List.length_nil] at hkl; omega,by omega,rfl,getO_set2 z1 z36 (by omega)⟩
        have hnz := Hz.le
        have hnz2 : n + 37 ≤ nz := by
          have := getO_low (Hz.good nz (Nat.le_refl _)) (show getO G (n + 36) ≠ .none by rw [z36]; simp)
          omega
        have HH : Hp n hbz (nz + 2) (setO G (n + 1) (.row 6 [.agg [.int .i64 t.form,.int .i64 bn,.bool bh,.str bs,slD 2 encL bl,.ms 6 (n + 36) 0 t.kids.el.length false]])) := (Hz.set (r := n + 1) (by omega) (fun k hk => lowO_one (low_tms (by omega)))).mono (by omega)
        have F := finishD_fz (n := nz + 2) (Fz.agg (.cons ((Fz.of1 (d := .int .i64 t.form) rfl).mono (show 1 ≤ 3 by omega)) (.cons ((Fz.of1 (d := .int .i64 bn) rfl).mono (show 1 ≤ 3 by omega)) (.cons ((Fz.of1 (d := .bool bh) rfl).mono (show 1 ≤ 3 by omega)) (.cons ((Fz.of1 (d := .str bs) rfl).mono (show 1 ≤ 3 by omega)) (.cons ((Fz.of1 (d := slD 2 encL bl) flat1_slD).mono (show 1 ≤ 3 by omega)) (.cons (Fz.bld elemT (BL _)) .nil))))))) (by omega) HH.leak
        simp (disch:=first|assumption|omega|(simp (disch:=first|assumption|omega) only [sB,reduceAdd,reduceLT,reduceLeDiff,reduceEqDiff,reduceMul,↓reduceIte];done)|fail) only [sA,↓reduceIte,reduceLT,reduceEqDiff,reduceAdd,reduceLeDiff,q8,q11,z27,z1,w2]
        rw [F,HH.drop]
end Go.Proofs.Ytdijijblccmfbaa
