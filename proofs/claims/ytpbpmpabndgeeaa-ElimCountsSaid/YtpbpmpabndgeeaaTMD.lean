/- What the program's map makes of a term, as plain trees. No condition. -/
import Derived.Test.YtpbpmpabndgeeaaTMA
set_option linter.unusedSimpArgs false
set_option linter.unusedVariables false
namespace Go.Proofs.Ytpbpmpabndgeeaa
open Go
open Nat (reduceAdd reduceLT reduceLeDiff reduceEqDiff reduceMul)

def varT (n:Int):Tm := .mk 1 n false [] (Sl.app []) true false [] []
theorem enc_var (n:Int):encT (varT n) = .agg [.int .i64 1,.int .i64 n,.bool false,.str [],.nils,.nils]:=by rw [encT_eq]; rfl
def gC:Does:=fun _ _ _=>none
def gL (a b:Int):Does:=fun t d L=>if t.form=1∧a+d≤t.n then some (varT (t.n+b),L) else none
def gS (p:Int) (s:Tm):Does:=fun t d L=>if t.form≠1∨t.n < p+d then none else if p+d < t.n then some (varT (t.n - 1),L) else some (runM (gL 0 d) s 0 L)
theorem steadyC:Steady gC 0:=⟨by omega,fun t d L x h=>by cases h⟩
theorem steadyL (a b:Int):Steady (gL a b) 0:=⟨by omega,fun t d L x h=>by
  unfold gL at h
  by_cases e:t.form=1∧a+d≤t.n
  · rw [if_pos e] at h; cases h; show L - 0≤L∧L≤L; omega
  · rw [if_neg e] at h; cases h⟩
section
variable (n:Nat) (h:Hps) (hg:Gd n h)
include hg
theorem dC (t:Tm) (d:Int):callFn (LX (cF Try.prog)) n h [(D.agg [.int .i64 (t).form,.int .i64 (t).n,.bool (t).hid,.str (t).name,slD 2 encL (t).levels,slD 6 encT (t).kids]),.int .i64 d] (cF Try.prog 69) = .ok (.tup [(D.agg [.int .i64 0,.int .i64 0,.bool false,.str [],.nils,.nils]),.bool false]) n h:=by
  have hgn:=hg n (Nat.le_refl _)
  rw [f69_eq]; unfold c69; rw [callFn_eq (by rfl)]
  simp (disch:=first|assumption|omega|(simp (disch:=first|assumption|omega) only [sB,reduceAdd,reduceLT,reduceLeDiff,reduceEqDiff,reduceMul,↓reduceIte];done)|fail) only [sA,↓reduceIte,reduceLT,reduceEqDiff,reduceAdd,reduceLeDiff]
theorem dL (a b:Int) (t:Tm) (d:Int) (ha:0≤a∧a≤10000000) (hb:0≤b∧b≤10000000) (hd:0≤d∧d≤10000000) (ht:t.form=1→0≤t.n∧t.n≤100000000000) :
    callFn (LX (cF Try.prog)) n h [.agg [.int .i64 a,.int .i64 b],(D.agg [.int .i64 (t).form,.int .i64 (t).n,.bool (t).hid,.str (t).name,slD 2 encL (t).levels,slD 6 encT (t).kids]),.int .i64 d] (cF Try.prog 63) = .ok (if t.form=1∧a+d≤t.n then .tup [encT (varT (t.n+b)),.bool true] else .tup [(D.agg [.int .i64 0,.int .i64 0,.bool false,.str [],.nils,.nils]),.bool false]) n h:=by
  have hgn:=hg n (Nat.le_refl _)
  have hG:∀ m,n≤m→Gd m h:=fun m hm=>Gd.mono hg hm
  have c1:∀ m h x,Gd m h→callFn (LX (cF Try.prog)) m h [.int .i64 x] (cF Try.prog 35) = .ok (.agg [.int .i64 1,.int .i64 x,.bool false,.str [],.nils,.nils]) m h:=fun m h x hg=>pVar m h hg x
  have gd2:∀ {m r k:Nat} {x y:Int} {g:Hps},r < m→Gd m ((r,.row k [.agg [.int .i64 x,.int .i64 y]])::g)=Gd m g:=fun hr=>gd_flat rfl hr
  rw [enc_var]
  generalize hf:t.form=f at *
  rw [f63_eq]; unfold c63; rw [callFn_eq (by rfl)]
  by_cases h1:f=1
  · subst h1
    have ht':=ht rfl
    by_cases h2:a+d≤t.n
    · rw [if_pos ⟨rfl,h2⟩]
      have h2':decide (a+d≤t.n)=true:=decide_eq_true h2
      simp (disch:=first|assumption|omega|(simp (disch:=first|assumption|omega) only [sB,reduceAdd,reduceLT,reduceLeDiff,reduceEqDiff,reduceMul,↓reduceIte,hG,gd_tmf,gd_zt,gd2];done)|fail) only [sA,↓reduceIte,reduceLT,reduceEqDiff,reduceAdd,reduceLeDiff,hf,h2',c1,hG,gd_tmf,gd_zt,gd2]
    · rw [if_neg (fun hh=>h2 hh.2)]
      have h2':decide (a+d≤t.n)=false:=decide_eq_false h2
      simp (disch:=first|assumption|omega|(simp (disch:=first|assumption|omega) only [sB,reduceAdd,reduceLT,reduceLeDiff,reduceEqDiff,reduceMul,↓reduceIte,hG,gd_tmf,gd_zt,gd2];done)|fail) only [sA,↓reduceIte,reduceLT,reduceEqDiff,reduceAdd,reduceLeDiff,hf,h2',c1,hG,gd_tmf,gd_zt,gd2]
  · rw [if_neg (fun hh=>h1 hh.1)]
    simp (disch:=first|assumption|omega|(simp (disch:=first|assumption|omega) only [sB,reduceAdd,reduceLT,reduceLeDiff,reduceEqDiff,reduceMul,↓reduceIte,hG,gd_tmf,gd_zt,gd2];done)|fail) only [sA,↓reduceIte,reduceLT,reduceEqDiff,reduceAdd,reduceLeDiff,hf,h1,c1,hG,gd_tmf,gd_zt,gd2]
end
theorem doesC {r:Nat}:DoesOk (.fn 69 [] []) r gC 0:=fun t _ d L _ _ _ _ n h hg _ _=>⟨fun _=>by rw [callX_fn]; exact dC n h hg t d,fun x hx => (by cases hx)⟩
theorem doesL {r:Nat} {a b:Int} (ha:0≤a∧a≤10000000) (hb:0≤b∧b≤10000000):DoesOk (.fn 63 [.agg [.int .i64 a,.int .i64 b]] []) r (gL a b) 0:=fun t ht d L hd1 hd2 _ _ n h hg _ hb'=>by
  have e:=dL n h hg a b t d ha hb ⟨hd1,by omega⟩ (slim_tm ht).2.1
  rw [callX_fn]
  unfold gL
  by_cases hc:t.form=1∧a+d≤t.n
  · rw [if_pos hc] at e ⊢
    exact ⟨fun h => (by cases h),fun x hx=>by cases hx; exact ⟨h,e,Cnt.refl hb'⟩⟩
  · rw [if_neg hc] at e ⊢
    exact ⟨fun _=>e,fun x hx=>by cases hx⟩
end Go.Proofs.Ytpbpmpabndgeeaa
set_option linter.unusedSimpArgs false
set_option linter.unusedVariables false
namespace Go.Proofs.Ytpbpmpabndgeeaa
open Go
open Nat (reduceAdd reduceLT reduceLeDiff reduceEqDiff reduceMul)

theorem pureC_new {m n q k:Nat} {h:Hps} {x:Int} (hq:n+1≤q):pureC [] n h (.fn k [] []) [] (.ok (.ptr q 0 0) m [(q,.row 1 [.int .i64 x])]) = .ok (.ptr q 0 0) m ((q,.row 1 [.int .i64 x])::h):=by
  have e:Nat.ble (n+1) q=true:=by rw [ble_iff,decide_eq_true hq]
  show ifR (Bool.and true (Bool.and true (Bool.and true (Bool.and true (Bool.and (Bool.or (Nat.ble (n+1) q) false) (Bool.and (Bool.or (Nat.ble (n+1) q) false) true)))))) _=_
  rw [e]; rfl
theorem pNone (n:Nat):callFn (LX (cF Try.prog)) n [] [] (cF Try.prog 62) = .ok (.ptr (n+1) 0 0) (n+4) [(n+1,.row 1 [.int .i64 1099511627776])]:=by
  rw [f62_eq]; unfold c62; rw [callFn_eq (by rfl)]
  simp (disch:=first|assumption|omega|(simp (disch:=first|assumption|omega) only [sB,reduceAdd,reduceLT,reduceLeDiff,reduceEqDiff,reduceMul,↓reduceIte];done)|fail) only [sA,↓reduceIte,reduceLT,reduceEqDiff,reduceAdd,reduceLeDiff]
  have e:hasP n 20 (.ptr (n+1) 0 0)=true:=by
    show Nat.ble n (n+1)=true
    rw [ble_iff,decide_eq_true (by omega)]
  unfold finishD
  rw [e]
  rfl
theorem keys_new {m q:Nat} {o:Ob} {h:Hps} (hq:m≤q):keysFrom m ((q,o)::h)=q::keysFrom m h:=by
  show Bool.rec (motive:=fun _=>List Nat) (keysFrom m h) (q::keysFrom m h) (Nat.ble m q)=_
  rw [ble_iff,decide_eq_true hq]
theorem pCopy (n:Nat) (h:Hps) (hg:Gd n h) (t:Tm) (ht:slimT t.abs=true) (hs:sizeT t.abs≤100000) (hh:highT t.abs≤100000):callFn (LX (cF Try.prog)) n h [(D.agg [.int .i64 (t).form,.int .i64 (t).n,.bool (t).hid,.str (t).name,slD 2 encL (t).levels,slD 6 encT (t).kids])] (cF Try.prog 41) = .ok (encT (runM gC t 0 1099511627776).1) n h:=by
  have hgn:=hg n (Nat.le_refl _)
  have hG:∀ m,n≤m→Gd m h:=fun m hm=>hg.mono hm
  have H:Hp n h (n+1099511627781) ((n+1099511627780,.row 1 [.int .i64 1099511627776]) :: (n+1,(Ob.row 6 [.agg [.int .i64 0,.int .i64 0,.bool false,.str [],.nils,.nils]])) :: (n,(Ob.row 6 [.agg [.int .i64 (t).form,.int .i64 (t).n,.bool (t).hid,.str (t).name,slD 2 encL (t).levels,slD 6 encT (t).kids]]))::h) := (((Hp.start hg).box (r:=n) (m:=n+1) (Nat.le_refl _) (by omega) (flatTA t)).box (r:=n+1) (m:=n+2) (k:=6) (d := (D.agg [.int .i64 0,.int .i64 0,.bool false,.str [],.nils,.nils])) (by omega) (by omega) rfl).box (r:=n+1099511627780) (by omega) (by omega) rfl
  obtain ⟨h2,e2,U2⟩:=mapRun (r:=n+1099511627780) steadyC (by omega) (c := .fn 69 [] []) (.inl rfl) rfl doesC t ht 0 1099511627776 (Int.le_refl _) (by omega) (by omega) (by omega) (n+2199023255555) _ (fun k hk=>H.good k (by omega)) (by omega) getO_hd
  have w1:getO h2 (n+1) = (Ob.row 6 [.agg [.int .i64 0,.int .i64 0,.bool false,.str [],.nils,.nils]]):=by rw [U2.get (by omega),getO_tl (by omega),getO_hd]
  have w2:∀ X,getO (setO h2 (n+1) X) (n+1)=X:=fun X=>getO_setO_same (by rw [w1]; simp)
  have H2:=Cnt.own H U2 (by omega) (by omega)
  generalize runM gC t 0 1099511627776=X at e2 ⊢
  rw [encT_eq] at e2 ⊢
  rw [f41_eq]; unfold c41; rw [callFn_eq (by rfl)]
  simp (disch:=first|assumption|omega|(simp (disch:=first|assumption|omega) only [sB,reduceAdd,reduceLT,reduceLeDiff,reduceEqDiff,reduceMul,↓reduceIte,gd_tm,gd_zt,hG];done)|fail) only [sA,↓reduceIte,reduceLT,reduceEqDiff,reduceAdd,reduceLeDiff,pNone,pureC_new,e2,w1,w2,keys_new,keys_gd,gd_tm,gd_zt,hG]
  exact finish_flat (flatTA X.1) ((H2.set (r:=n+1) (by omega) (fun k hk=>lowO_one (low_flat (flatTA _)))).mono (by omega))
theorem pLift (n:Nat) (h:Hps) (hg:Gd n h) (t:Tm) (a b:Int) (ha:0≤a∧a≤10000000) (hb:0≤b∧b≤10000000) (hab:0 < a+b) (ht:slimT t.abs=true) (hs:sizeT t.abs≤100000) (hh:highT t.abs≤100000):callFn (LX (cF Try.prog)) n h [(D.agg [.int .i64 (t).form,.int .i64 (t).n,.bool (t).hid,.str (t).name,slD 2 encL (t).levels,slD 6 encT (t).kids]),.int .i64 a,.int .i64 b] (cF Try.prog 31) = .ok (encT (runM (gL a b) t 0 1099511627776).1) n h:=by
  have hgn:=hg n (Nat.le_refl _)
  have hG:∀ m,n≤m→Gd m h:=fun m hm=>hg.mono hm
  have H:Hp n h (n+1099511627787) ((n+1099511627786,.row 1 [.int .i64 1099511627776]) :: (n+1,(Ob.row 6 [.agg [.int .i64 0,.int .i64 0,.bool false,.str [],.nils,.nils]])) :: (n,(Ob.row 6 [.agg [.int .i64 (t).form,.int .i64 (t).n,.bool (t).hid,.str (t).name,slD 2 encL (t).levels,slD 6 encT (t).kids]]))::h) := (((Hp.start hg).box (r:=n) (m:=n+1) (Nat.le_refl _) (by omega) (flatTA t)).box (r:=n+1) (m:=n+2) (k:=6) (d := (D.agg [.int .i64 0,.int .i64 0,.bool false,.str [],.nils,.nils])) (by omega) (by omega) rfl).box (r:=n+1099511627786) (by omega) (by omega) rfl
  obtain ⟨h2,e2,U2⟩:=mapRun (r:=n+1099511627786) (steadyL a b) (by omega) (c := .fn 63 [.agg [.int .i64 a,.int .i64 b]] []) (.inl rfl) rfl (doesL ha hb) t ht 0 1099511627776 (Int.le_refl _) (by omega) (by omega) (by omega) (n+6597069766665) _ (fun k hk=>H.good k (by omega)) (by omega) getO_hd
  have w1:getO h2 (n+1) = (Ob.row 6 [.agg [.int .i64 0,.int .i64 0,.bool false,.str [],.nils,.nils]]):=by rw [U2.get (by omega),getO_tl (by omega),getO_hd]
  have w2:∀ X,getO (setO h2 (n+1) X) (n+1)=X:=fun X=>getO_setO_same (by rw [w1]; simp)
  have H2:=Cnt.own H U2 (by omega) (by omega)
  generalize runM (gL a b) t 0 1099511627776=X at e2 ⊢
  rw [encT_eq] at e2 ⊢
  by_cases hb0:b=0
  · have ha0:¬ a=0:=by omega
    subst hb0
    rw [f31_eq]; unfold c31; rw [callFn_eq (by rfl)]
    simp (disch:=first|assumption|omega|(simp (disch:=first|assumption|omega) only [sB,reduceAdd,reduceLT,reduceLeDiff,reduceEqDiff,reduceMul,↓reduceIte,gd_tm,gd_zt,hG];done)|fail) only [sA,↓reduceIte,reduceLT,reduceEqDiff,reduceAdd,reduceLeDiff,ha0,pNone,pureC_new,e2,w1,w2,keys_new,keys_gd,gd_tm,gd_zt,hG]
    exact finish_flat (flatTA X.1) ((H2.set (r:=n+1) (by omega) (fun k hk=>lowO_one (low_flat (flatTA _)))).mono (by omega))
  · rw [f31_eq]; unfold c31; rw [callFn_eq (by rfl)]
    simp (disch:=first|assumption|omega|(simp (disch:=first|assumption|omega) only [sB,reduceAdd,reduceLT,reduceLeDiff,reduceEqDiff,reduceMul,↓reduceIte,gd_tm,gd_zt,hG];done)|fail) only [sA,↓reduceIte,reduceLT,reduceEqDiff,reduceAdd,reduceLeDiff,hb0,pNone,pureC_new,e2,w1,w2,keys_new,keys_gd,gd_tm,gd_zt,hG]
    exact finish_flat (flatTA X.1) ((H2.set (r:=n+1) (by omega) (fun k hk=>lowO_one (low_flat (flatTA _)))).mono (by omega))
end Go.Proofs.Ytpbpmpabndgeeaa
set_option linter.unusedSimpArgs false
set_option linter.unusedVariables false
namespace Go.Proofs.Ytpbpmpabndgeeaa
open Go
open Nat (reduceAdd reduceLT reduceLeDiff reduceEqDiff reduceMul)

def mapI (F:Trm→Int→Trm) (f:Int):Nat→List Trm→Int→List Trm
  | _,[],_=>[]
  | i,k::t,d=>F k (undr f i d)::mapI F f (i+1) t d
def tidyT (t:Trm) (ks:List Trm):Trm := .mk t.form (if t.form=1∨t.form=11 then t.n else 0) (if t.form=3∨t.form=4∨t.form=5 then t.hid else false) (if t.form=10 then t.name else []) (if t.form=2∨t.form=10 then t.levels else []) ks
theorem bare_abs (t:Tm) (ks:List Tm) : (bareT t ks).abs=tidyT t.abs (ks.map Tm.abs):=by
  unfold tidyT
  rw [abs_form,abs_n,abs_hid,abs_name,abs_levels,abs_eq]
  have e : ((if t.form=2∨t.form=10 then Sl.app (t.levels.el.map cloneL) else Sl.app []).el.map SLev.lev) = (if t.form=2∨t.form=10 then t.levels.el.map SLev.lev else []):=by
    split
    · rw [app_el,List.map_map]
      exact List.map_congr_left (fun x _=>cloneL_lev x)
    · rfl
  rw [← e]
  rfl
theorem clean_tidy (t:Trm):cleanT t=tidyT t (t.kids.map cleanT):=by
  obtain ⟨f,n,h,nm,ls,ks⟩:=t
  rw [clean_eq]; rfl
theorem leaf_tm {t:Tm} (h:leafT t.abs=true) : (t.form=1→t.kids.el=[])∧∀ k,k∈t.kids.el→leafT k.abs=true:=by
  rw [abs_eq] at h
  obtain ⟨h1,h2⟩ := (leaf_eq _ _ _ _ _ _).1 h
  exact ⟨fun e=>by have:=h1 e; simpa using this,fun k hk=>h2 _ (List.mem_map.2 ⟨k,hk,rfl⟩)⟩
theorem run_val {g:Does} {M:Int} (hS:Steady g M) (F:Trm→Int→Trm) (h1:∀ t d L x,leafT t.abs=true→g t d L=some x→0≤x.2→x.1.abs=F t.abs d) (h2:∀ t d L,leafT t.abs=true→g t d L=none→F t.abs d=tidyT t.abs (mapI F t.form 0 t.abs.kids d)) :
    ∀ t:Tm,leafT t.abs=true→∀ d L,0 ≤ (runM g t d L).2 → (runM g t d L).1.abs=F t.abs d:=by
  refine Tm.ind ?_
  intro t ih hl d L h0
  have hk := (leaf_tm hl).2
  rw [runM_eq] at h0 ⊢
  by_cases hL:L - 1 < 0
  · rw [if_pos hL] at h0
    have:0≤L - 1:=h0
    omega
  · rw [if_neg hL] at h0 ⊢
    cases e:g t d (L - 1) with
    | some x =>
      rw [e] at h0
      exact h1 t d (L - 1) x hl e h0
    | none =>
      rw [e] at h0
      rw [h2 t d (L - 1) hl e]
      show (bareT t (runMs g t.form 0 t.kids.el d (L - 1)).1).abs=_
      rw [bare_abs]
      congr 1
      rw [abs_kids]
      have key:∀ ks:List Tm,(∀ k,k∈ks→k∈t.kids.el)→∀ (i:Nat) (L:Int),0 ≤ (runMs g t.form i ks d L).2 → (runMs g t.form i ks d L).1.map Tm.abs=mapI F t.form i (ks.map Tm.abs) d:=by
        intro ks
        induction ks with
        | nil=>intro _ i L _; rw [runMs_nil]; rfl
        | cons k ks ihk =>
          intro hks i L h0
          rw [runMs_cons] at h0 ⊢
          have h0':0 ≤ (runMs g t.form (i+1) ks d (runM g k (undr t.form i d) L).2).2:=h0
          have := (runMs_low hS t.form d ks (i+1) (runM g k (undr t.form i d) L).2).2
          show (runM g k (undr t.form i d) L).1.abs :: (runMs g t.form (i+1) ks d (runM g k (undr t.form i d) L).2).1.map Tm.abs=F k.abs (undr t.form i d)::mapI F t.form (i+1) (ks.map Tm.abs) d
          rw [ih k (hks k (by simp)) (hk k (hks k (by simp))) _ _ (by omega),ihk (fun x hx=>hks x (by simp [hx])) (i+1) _ h0']
      exact key t.kids.el (fun _ h=>h) 0 (L - 1) h0
theorem mapI_clean (f:Int):∀ (ks:List Trm) (i:Nat) (d:Int),mapI (fun t _=>cleanT t) f i ks d=ks.map cleanT
  | [],_,_=>rfl
  | k::t,i,d=>by rw [mapI,mapI_clean f t]; rfl
theorem mapI_lift (a b f:Int):∀ (ks:List Trm) (i:Nat) (d:Int),mapI (fun t d=>rlift b (cleanT t) (a+d)) f i ks d=rlifts b f i (ks.map cleanT) (a+d)
  | [],_,_=>by rw [List.map_nil,rlifts]; rfl
  | k::t,i,d=>by
    have e:undr f i (a+d)=a+undr f i d:=by rw [Int.add_comm,undr_add,Int.add_comm]
    rw [mapI,mapI_lift a b f t,List.map_cons,rlifts,e]
theorem copy_val (t:Tm) (hl:leafT t.abs=true) (d L:Int) (h:0 ≤ (runM gC t d L).2) : (runM gC t d L).1.abs=cleanT t.abs :=
  run_val steadyC (fun t _=>cleanT t) (fun t d L x _ h=>by cases h) (fun t d L _ _=>by rw [mapI_clean]; exact clean_tidy _) t hl d L h
theorem lift_val (a b:Int) (t:Tm) (hl:leafT t.abs=true) (d L:Int) (h:0 ≤ (runM (gL a b) t d L).2) : (runM (gL a b) t d L).1.abs=rlift b (cleanT t.abs) (a+d) :=
  run_val (steadyL a b) (fun t d=>rlift b (cleanT t) (a+d)) (fun t d L x hl h _=>by
    unfold gL at h
    by_cases e:t.form=1∧a+d≤t.n
    · rw [if_pos e] at h
      cases h
      have hk := (leaf_tm hl).1 e.1
      rw [abs_eq t,clean_eq,rlift,hk,if_pos ⟨e.1,by rw [if_pos (.inl e.1)]; exact e.2⟩,e.1]
      rfl
    · rw [if_neg e] at h; cases h) (fun t d L hl h=>by
    unfold gL at h
    by_cases e:t.form=1∧a+d≤t.n
    · rw [if_pos e] at h; cases h
    · rw [mapI_lift]
      rw [abs_eq t,clean_eq,rlift,if_neg (fun hh=>e ⟨hh.1,by have:=hh.2; rw [if_pos (.inl hh.1)] at this; exact this⟩)]
      rfl) t hl d L h
def fewT (t:Trm):Bool:=allT (fun t=>decide (t.levels.length≤1000000000)) t
theorem few_eq (t:Trm):fewT t=true↔t.levels.length≤1000000000∧∀ k,k∈t.kids→fewT k=true:=by
  show allT _ t=true↔_
  rw [allT_eq,allTs_eq,Bool.and_eq_true,decide_eq_true_iff,List.all_eq_true]
  rfl
theorem rlifts_mem (b f:Int):∀ (ks:List Trm) (i:Nat) (a:Int) (x:Trm),x∈rlifts b f i ks a→∃ k a',k∈ks∧x=rlift b k a'
  | [],_,_,x,hx=>by rw [rlifts] at hx; cases hx
  | k::t,i,a,x,hx=>by
    rw [rlifts] at hx
    rcases List.mem_cons.1 hx with rfl | hx
    · exact ⟨k,_,by simp,rfl⟩
    · obtain ⟨k',a',h1,h2⟩:=rlifts_mem b f t (i+1) a x hx
      exact ⟨k',a',by simp [h1],h2⟩
theorem kidsN_le (f:Int):kidsN f≤3:=by
  unfold kidsN
  repeat' split
  all_goals omega
theorem slim_of:∀ t:Trm,formedT t=true→fewT t=true→slimT t=true:=by
  refine Trm.ind ?_
  intro t ih hf hw
  rw [formedT_eq,Bool.and_eq_true,List.all_eq_true] at hf
  obtain ⟨w1,w2⟩ := (few_eq t).1 hw
  have hl:=part_len hf.1
  have h3:=kidsN_le t.form
  rw [slim_eq,Bool.and_eq_true,List.all_eq_true]
  refine ⟨?_,fun k hk=>ih k hk (hf.2 k hk) (w2 k hk)⟩
  have hp:=hf.1
  unfold partOk at hp
  rw [Bool.and_eq_true] at hp
  have hc:∀ l:List Lev,l.all Lev.canon=true → (l.all fun x=>decide (x.v.length≤1000000000))=true:=fun l h=>by
    rw [List.all_eq_true] at h ⊢
    intro x hx
    have:=h x hx
    unfold Lev.canon at this
    rw [Bool.and_eq_true] at this
    have := (right_iff.1 this.1).2.1
    exact decide_eq_true (by omega)
  rw [decide_eq_true (show t.kids.length≤1000000 by omega),Bool.true_and]
  by_cases e1:t.form=1
  · rw [if_pos (.inl e1)] at hp
    have:=of_decide_eq_true hp.2
    rw [e1]
    simp
    omega
  · rw [decide_eq_false e1]
    by_cases e2:t.form=2
    · rw [if_neg (by omega),if_neg (by omega),if_pos e2,Bool.and_eq_true] at hp
      simp only [hc _ hp.2.2,w1]
      simp
    · by_cases e10:t.form=10
      · rw [if_neg (by omega),if_neg (by omega),if_neg e2,if_pos e10,Bool.and_eq_true] at hp
        simp only [hc _ hp.2.2,w1]
        simp
      · rw [decide_eq_false (show ¬ (t.form=2∨t.form=10) by omega)]
        rfl
theorem sane_of:∀ t:Trm,fewT t=true→slimT t=true→saneT t=true:=by
  refine Trm.ind ?_
  intro t ih hw hs
  obtain ⟨w1,w2⟩ := (few_eq t).1 hw
  rw [slim_eq,Bool.and_eq_true,List.all_eq_true] at hs
  have h1:=hs.1
  rw [Bool.and_eq_true,Bool.and_eq_true,decide_eq_true_iff] at h1
  exact (sane_eq t).2 ⟨⟨by omega,by have:=h1.1.1; omega⟩,fun k hk=>ih k hk (w2 k hk) (hs.2 k hk)⟩
end Go.Proofs.Ytpbpmpabndgeeaa
