/- What the program's map makes of a term, as plain trees. No condition. -/
import Derived.Test.YtdijijblccmfbaaVA
set_option linter.unusedSimpArgs false
set_option linter.unusedVariables false
namespace Go.Proofs.Ytdijijblccmfbaa
open Go
open Nat (reduceAdd reduceLT reduceLeDiff reduceEqDiff reduceMul)

def slimT (t:Trm):Bool:=allT (fun t=>decide (t.kids.length≤1000000) && (!decide (t.form=1) || decide (0≤t.n∧t.n≤100000000000)) && (!decide (t.form=2∨t.form=10) || (decide (t.levels.length≤1000000000) && t.levels.all fun x=>decide (x.v.length≤1000000000)))) t
theorem slim_eq (t:Trm):slimT t = (decide (t.kids.length≤1000000) && (!decide (t.form=1) || decide (0≤t.n∧t.n≤100000000000)) && (!decide (t.form=2∨t.form=10) || (decide (t.levels.length≤1000000000) && t.levels.all fun x=>decide (x.v.length≤1000000000))) && t.kids.all slimT):=by
  show allT _ t=_
  rw [allT_eq,allTs_eq]; rfl
theorem slim_tm {t:Tm} (h:slimT t.abs=true):t.kids.el.length≤1000000 ∧ (t.form=1→0≤t.n∧t.n≤100000000000)∧thin t∧∀ k,k∈t.kids.el→slimT k.abs=true:=by
  rw [slim_eq,abs_kids,abs_form,abs_n,abs_levels,List.length_map,List.length_map,List.all_map,List.all_map] at h
  simp only [Bool.and_eq_true,Bool.or_eq_true,decide_eq_true_iff,Bool.not_eq_true',decide_eq_false_iff_not,List.all_eq_true] at h
  obtain ⟨⟨⟨h1,h2⟩,h3⟩,h4⟩:=h
  refine ⟨h1,fun e=>h2.resolve_left (fun hh=>hh e),fun e=>?_,h4⟩
  obtain ⟨a,b⟩:=h3.resolve_left (fun hh=>hh e)
  exact ⟨a,fun x hx=>of_decide_eq_true (b x hx)⟩
def DoesOk (c:D) (r:Nat) (g:Does) (M:Int):Prop:=∀ t:Tm,slimT t.abs=true→∀ d L:Int,0≤d→d≤1000000 → -1000000000000000≤L - M→L≤10000000000000→∀ (n:Nat) (h:Hps),Gd n h→r < n→getO h r = .row 1 [.int .i64 L] →
  (g t d L=none→callX (cFk kL Try.prog) (LX (cFk kL Try.prog)) n h c [(D.agg [.int .i64 (t).form,.int .i64 (t).n,.bool (t).hid,.str (t).name,slD 2 encL (t).levels,slD 6 encT (t).kids]),.int .i64 d] = .ok (.tup [(D.agg [.int .i64 0,.int .i64 0,.bool false,.str [],.nils,.nils]),.bool false]) n h)∧∀ x,g t d L=some x→∃ h',callX (cFk kL Try.prog) (LX (cFk kL Try.prog)) n h c [(D.agg [.int .i64 (t).form,.int .i64 (t).n,.bool (t).hid,.str (t).name,slD 2 encL (t).levels,slD 6 encT (t).kids]),.int .i64 d] = .ok (.tup [encT x.1,.bool true]) n h'∧Cnt r x.2 h h'
theorem enc_zero:encT zeroT = (D.agg [.int .i64 0,.int .i64 0,.bool false,.str [],.nils,.nils]):=by rw [encT_eq]; rfl

theorem iaddr_ms {n k r l i:Nat} {h:Hps} {f:Bool} (hi:i < l):iaddrD n h k (.ms k r 0 l f) i = .ok (.ptr r i 0) n h:=by
  show ifR (Bool.and (Nat.blt i l) (Nat.beq k k)) (.ok (.ptr r (0+i) 0) n h)=_
  rw [blt_iff,decide_eq_true hi,Nat.beq_refl,Nat.zero_add]; rfl
theorem store_tm {m q i:Nat} {h:Hps} {l:List Tm} {x:Tm} (hi:i < l.length):storeR true 6 q i 0 (D.agg [.int .i64 (x).form,.int .i64 (x).n,.bool (x).hid,.str (x).name,slD 2 encL (x).levels,slD 6 encT (x).kids]) m h (.row 6 (l.map encT)) = .ok .junk m (setO h q (.row 6 ((l.set i x).map encT))):=by
  have e1:nth (l.map encT) i=encT l[i]:=by rw [nth_eq,List.getD_eq_getElem?_getD,List.getElem?_map,List.getElem?_eq_getElem hi]; rfl
  have e2:setS true 6 0 (encT l[i]) (D.agg [.int .i64 (x).form,.int .i64 (x).n,.bool (x).hid,.str (x).name,slD 2 encL (x).levels,slD 6 encT (x).kids]) = (D.agg [.int .i64 (x).form,.int .i64 (x).n,.bool (x).hid,.str (x).name,slD 2 encL (x).levels,slD 6 encT (x).kids]):=by rw [encT_eq]; rfl
  show storeS q 6 i (l.map encT) m h (setS true 6 0 (nth (l.map encT) i) (D.agg [.int .i64 (x).form,.int .i64 (x).n,.bool (x).hid,.str (x).name,slD 2 encL (x).levels,slD 6 encT (x).kids]))=_
  rw [e1,e2]
  show ifR (Nat.blt i (lenL (l.map encT))) (.ok .junk m (setO h q (.row 6 (put (l.map encT) i (D.agg [.int .i64 (x).form,.int .i64 (x).n,.bool (x).hid,.str (x).name,slD 2 encL (x).levels,slD 6 encT (x).kids])))))=_
  rw [lenL_eq,List.length_map,blt_iff,decide_eq_true hi,put_eq,← encT_eq,List.map_set]
  rfl
theorem mksl_eq {n k b m:Nat} {h:Hps} {z:D} (hs:m*b≤140737488355328):mkslD n h k b z m = .ok (.ms k n 0 m false) n ((n,.row k (List.replicate m z))::h):=by
  show ifR (Nat.ble (m*b) most) (.ok (.ms k n 0 m false) n ((n,.row k (repL z m))::h))=_
  rw [repL_eq,ble_iff,show most=140737488355328 from rfl,decide_eq_true hs]
  rfl
theorem low_tms {m q len:Nat} {f a:Int} {b:Bool} {c:List Nat} {s:Sl SLev} (hr:q < m):low m (.agg [.int .i64 f,.int .i64 a,.bool b,.str c,slD 2 encL s,.ms 6 q 0 len false]):=low_agg (fun x hx=>by
  rcases List.mem_cons.1 hx with rfl | hx
  · rfl
  rcases List.mem_cons.1 hx with rfl | hx
  · rfl
  rcases List.mem_cons.1 hx with rfl | hx
  · rfl
  rcases List.mem_cons.1 hx with rfl | hx
  · rfl
  rcases List.mem_cons.1 hx with rfl | hx
  · exact (plain1 18 flat1_slD).hasR m
  · rw [List.mem_singleton.1 hx]; exact ble_f hr)
end Go.Proofs.Ytdijijblccmfbaa
set_option linter.unusedSimpArgs false
set_option linter.unusedVariables false
namespace Go.Proofs.Ytdijijblccmfbaa
open Go
open Nat (reduceAdd reduceLT reduceLeDiff reduceEqDiff reduceMul)

def varT (n:Int):Tm := .mk 1 n false [] (Sl.app []) true false [] []
theorem enc_var (n:Int):encT (varT n) = .agg [.int .i64 1,.int .i64 n,.bool false,.str [],.nils,.nils]:=by rw [encT_eq]; rfl
def gC:Does:=fun _ _ _=>none
def gL (a b:Int):Does:=fun t d L=>if t.form=1∧a+d≤t.n then some (varT (t.n+b),L) else none
def gS (p:Int) (s:Tm):Does:=fun t d L=>if t.form≠1∨t.n < p+d then none else if p+d < t.n then some (varT (t.n - 1),L) else some (runM (gL 0 d) s 0 L)
theorem steadyC:Steady gC 0:=⟨by omega,fun t d L x h=>by cases h⟩
theorem steadyL (a b:Int):Steady (gL a b) 0:=⟨by omega,fun t d L x h=>by
  unfold gL at h
  by_cases e:t.form=1∧a+d≤t.n
  · rw [if_pos e] at h; cases h; show L - 0≤L∧L≤L; omega
  · rw [if_neg e] at h; cases h⟩
section
variable (n:Nat) (h:Hps) (hg:Gd n h)
include hg
theorem dC (t:Tm) (d:Int):callFn (LX (cFk kL Try.prog)) n h [(D.agg [.int .i64 (t).form,.int .i64 (t).n,.bool (t).hid,.str (t).name,slD 2 encL (t).levels,slD 6 encT (t).kids]),.int .i64 d] (cFk kL Try.prog 93) = .ok (.tup [(D.agg [.int .i64 0,.int .i64 0,.bool false,.str [],.nils,.nils]),.bool false]) n h:=by
  have hgn:=hg n (Nat.le_refl _)
  rw [f93_eq]; unfold c93; rw [callFn_eq (by rfl)]
  simp (disch:=first|assumption|omega|(simp (disch:=first|assumption|omega) only [sB,reduceAdd,reduceLT,reduceLeDiff,reduceEqDiff,reduceMul,↓reduceIte];done)|fail) only [sA,↓reduceIte,reduceLT,reduceEqDiff,reduceAdd,reduceLeDiff]
theorem dL (a b:Int) (t:Tm) (d:Int) (ha:0≤a∧a≤10000000) (hb:0≤b∧b≤10000000) (hd:0≤d∧d≤10000000) (ht:t.form=1→0≤t.n∧t.n≤100000000000) :
    callFn (LX (cFk kL Try.prog)) n h [.agg [.int .i64 a,.int .i64 b],(D.agg [.int .i64 (t).form,.int .i64 (t).n,.bool (t).hid,.str (t).name,slD 2 encL (t).levels,slD 6 encT (t).kids]),.int .i64 d] (cFk kL Try.prog 94) = .ok (if t.form=1∧a+d≤t.n then .tup [encT (varT (t.n+b)),.bool true] else .tup [(D.agg [.int .i64 0,.int .i64 0,.bool false,.str [],.nils,.nils]),.bool false]) n h:=by
  have hgn:=hg n (Nat.le_refl _)
  have hG:∀ m,n≤m→Gd m h:=fun m hm=>Gd.mono hg hm
  have c1:∀ m h x,Gd m h→callFn (LX (cFk kL Try.prog)) m h [.int .i64 x] (cFk kL Try.prog 120) = .ok (.agg [.int .i64 1,.int .i64 x,.bool false,.str [],.nils,.nils]) m h:=fun m h x hg=>pVar m h hg x
  have gd2:∀ {m r k:Nat} {x y:Int} {g:Hps},r < m→Gd m ((r,.row k [.agg [.int .i64 x,.int .i64 y]])::g)=Gd m g:=fun hr=>gd_flat rfl hr
  rw [enc_var]
  generalize hf:t.form=f at *
  rw [f94_eq]; unfold c94; rw [callFn_eq (by rfl)]
  by_cases h1:f=1
  · subst h1
    have ht':=ht rfl
    by_cases h2:a+d≤t.n
    · rw [if_pos ⟨rfl,h2⟩]
      have h2':decide (a+d≤t.n)=true:=decide_eq_true h2
      simp (disch:=first|assumption|omega|(simp (disch:=first|assumption|omega) only [sB,reduceAdd,reduceLT,reduceLeDiff,reduceEqDiff,reduceMul,↓reduceIte,hG,gd_tmf,gd_zt,gd2];done)|fail) only [sA,↓reduceIte,reduceLT,reduceEqDiff,reduceAdd,reduceLeDiff,hf,h2',c1,hG,gd_tmf,gd_zt,gd2]
    · rw [if_neg (fun hh=>h2 hh.2)]
      have h2':decide (a+d≤t.n)=false:=decide_eq_false h2
      simp (disch:=first|assumption|omega|(simp (disch:=first|assumption|omega) only [sB,reduceAdd,reduceLT,reduceLeDiff,reduceEqDiff,reduceMul,↓reduceIte,hG,gd_tmf,gd_zt,gd2];done)|fail) only [sA,↓reduceIte,reduceLT,reduceEqDiff,reduceAdd,reduceLeDiff,hf,h2',c1,hG,gd_tmf,gd_zt,gd2]
  · rw [if_neg (fun hh=>h1 hh.1)]
    simp (disch:=first|assumption|omega|(simp (disch:=first|assumption|omega) only [sB,reduceAdd,reduceLT,reduceLeDiff,reduceEqDiff,reduceMul,↓reduceIte,hG,gd_tmf,gd_zt,gd2];done)|fail) only [sA,↓reduceIte,reduceLT,reduceEqDiff,reduceAdd,reduceLeDiff,hf,h1,c1,hG,gd_tmf,gd_zt,gd2]
end
end Go.Proofs.Ytdijijblccmfbaa
set_option linter.unusedSimpArgs false
set_option linter.unusedVariables false
namespace Go.Proofs.Ytdijijblccmfbaa
open Go
open Nat (reduceAdd reduceLT reduceLeDiff reduceEqDiff reduceMul)

theorem pureC_new {m n q k:Nat} {h:Hps} {x:Int} (hq:n+1≤q):pureC [] n h (.fn k [] []) [] (.ok (.ptr q 0 0) m [(q,.row 1 [.int .i64 x])]) = .ok (.ptr q 0 0) m ((q,.row 1 [.int .i64 x])::h):=by
  have e:Nat.ble (n+1) q=true:=by rw [ble_iff,decide_eq_true hq]
  show ifR (Bool.and true (Bool.and true (Bool.and true (Bool.and true (Bool.and (Bool.or (Nat.ble (n+1) q) false) (Bool.and (Bool.or (Nat.ble (n+1) q) false) true)))))) _=_
  rw [e]; rfl
theorem pNone (n:Nat):callFn (LX (cFk kL Try.prog)) n [] [] (cFk kL Try.prog 92) = .ok (.ptr (n+1) 0 0) (n+4) [(n+1,.row 1 [.int .i64 1099511627776])]:=by
  rw [f92_eq]; unfold c92; rw [callFn_eq (by rfl)]
  simp (disch:=first|assumption|omega|(simp (disch:=first|assumption|omega) only [sB,reduceAdd,reduceLT,reduceLeDiff,reduceEqDiff,reduceMul,↓reduceIte];done)|fail) only [sA,↓reduceIte,reduceLT,reduceEqDiff,reduceAdd,reduceLeDiff]
  have e:hasP n 20 (.ptr (n+1) 0 0)=true:=by
    show Nat.ble n (n+1)=true
    rw [ble_iff,decide_eq_true (by omega)]
  unfold finishD
  rw [e]
  rfl
theorem keys_new {m q:Nat} {o:Ob} {h:Hps} (hq:m≤q):keysFrom m ((q,o)::h)=q::keysFrom m h:=by
  show Bool.rec (motive:=fun _=>List Nat) (keysFrom m h) (q::keysFrom m h) (Nat.ble m q)=_
  rw [ble_iff,decide_eq_true hq]
end Go.Proofs.Ytdijijblccmfbaa
set_option linter.unusedSimpArgs false
set_option linter.unusedVariables false
namespace Go.Proofs.Ytdijijblccmfbaa
open Go
open Nat (reduceAdd reduceLT reduceLeDiff reduceEqDiff reduceMul)

def mapI (F:Trm→Int→Trm) (f:Int):Nat→List Trm→Int→List Trm
  | _,[],_=>[]
  | i,k::t,d=>F k (undr f i d)::mapI F f (i+1) t d
def tidyT (t:Trm) (ks:List Trm):Trm := .mk t.form (if t.form=1∨t.form=11 then t.n else 0) (if t.form=3∨t.form=4∨t.form=5 then t.hid else false) (if t.form=10 then t.name else []) (if t.form=2∨t.form=10 then t.levels else []) ks
theorem bare_abs (t:Tm) (ks:List Tm) : (bareT t ks).abs=tidyT t.abs (ks.map Tm.abs):=by
  unfold tidyT
  rw [abs_form,abs_n,abs_hid,abs_name,abs_levels,abs_eq]
  have e : ((if t.form=2∨t.form=10 then Sl.app (t.levels.el.map cloneL) else Sl.app []).el.map SLev.lev) = (if t.form=2∨t.form=10 then t.levels.el.map SLev.lev else []):=by
    split
    · rw [app_el,List.map_map]
      exact List.map_congr_left (fun x _=>cloneL_lev x)
    · rfl
  rw [← e]
  rfl
theorem clean_tidy (t:Trm):cleanT t=tidyT t (t.kids.map cleanT):=by
  obtain ⟨f,n,h,nm,ls,ks⟩:=t
  rw [clean_eq]; rfl
theorem leaf_tm {t:Tm} (h:leafT t.abs=true) : (t.form=1→t.kids.el=[])∧∀ k,k∈t.kids.el→leafT k.abs=true:=by
  rw [abs_eq] at h
  obtain ⟨h1,h2⟩ := (leaf_eq _ _ _ _ _ _).1 h
  exact ⟨fun e=>by have:=h1 e; simpa using this,fun k hk=>h2 _ (List.mem_map.2 ⟨k,hk,rfl⟩)⟩
theorem run_val {g:Does} {M:Int} (hS:Steady g M) (F:Trm→Int→Trm) (h1:∀ t d L x,leafT t.abs=true→g t d L=some x→0≤x.2→x.1.abs=F t.abs d) (h2:∀ t d L,leafT t.abs=true→g t d L=none→F t.abs d=tidyT t.abs (mapI F t.form 0 t.abs.kids d)) :
    ∀ t:Tm,leafT t.abs=true→∀ d L,0 ≤ (runM g t d L).2 → (runM g t d L).1.abs=F t.abs d:=by
  refine Tm.ind ?_
  intro t ih hl d L h0
  have hk := (leaf_tm hl).2
  rw [runM_eq] at h0 ⊢
  by_cases hL:L - 1 < 0
  · rw [if_pos hL] at h0
    have:0≤L - 1:=h0
    omega
  · rw [if_neg hL] at h0 ⊢
    cases e:g t d (L - 1) with
    | some x =>
      rw [e] at h0
      exact h1 t d (L - 1) x hl e h0
    | none =>
      rw [e] at h0
      rw [h2 t d (L - 1) hl e]
      show (bareT t (runMs g t.form 0 t.kids.el d (L - 1)).1).abs=_
      rw [bare_abs]
      congr 1
      rw [abs_kids]
      have key:∀ ks:List Tm,(∀ k,k∈ks→k∈t.kids.el)→∀ (i:Nat) (L:Int),0 ≤ (runMs g t.form i ks d L).2 → (runMs g t.form i ks d L).1.map Tm.abs=mapI F t.form i (ks.map Tm.abs) d:=by
        intro ks
        induction ks with
        | nil=>intro _ i L _; rw [runMs_nil]; rfl
        | cons k ks ihk =>
          intro hks i L h0
          rw [runMs_cons] at h0 ⊢
          have h0':0 ≤ (runMs g t.form (i+1) ks d (runM g k (undr t.form i d) L).2).2:=h0
          have := (runMs_low hS t.form d ks (i+1) (runM g k (undr t.form i d) L).2).2
          show (runM g k (undr t.form i d) L).1.abs :: (runMs g t.form (i+1) ks d (runM g k (undr t.form i d) L).2).1.map Tm.abs=F k.abs (undr t.form i d)::mapI F t.form (i+1) (ks.map Tm.abs) d
          rw [ih k (hks k (by simp)) (hk k (hks k (by simp))) _ _ (by omega),ihk (fun x hx=>hks x (by simp [hx])) (i+1) _ h0']
      exact key t.kids.el (fun _ h=>h) 0 (L - 1) h0
theorem mapI_clean (f:Int):∀ (ks:List Trm) (i:Nat) (d:Int),mapI (fun t _=>cleanT t) f i ks d=ks.map cleanT
  | [],_,_=>rfl
  | k::t,i,d=>by rw [mapI,mapI_clean f t]; rfl
theorem mapI_lift (a b f:Int):∀ (ks:List Trm) (i:Nat) (d:Int),mapI (fun t d=>rlift b (cleanT t) (a+d)) f i ks d=rlifts b f i (ks.map cleanT) (a+d)
  | [],_,_=>by rw [List.map_nil,rlifts]; rfl
  | k::t,i,d=>by
    have e:undr f i (a+d)=a+undr f i d:=by rw [Int.add_comm,undr_add,Int.add_comm]
    rw [mapI,mapI_lift a b f t,List.map_cons,rlifts,e]
theorem copy_val (t:Tm) (hl:leafT t.abs=true) (d L:Int) (h:0 ≤ (runM gC t d L).2) : (runM gC t d L).1.abs=cleanT t.abs :=
  run_val steadyC (fun t _=>cleanT t) (fun t d L x _ h=>by cases h) (fun t d L _ _=>by rw [mapI_clean]; exact clean_tidy _) t hl d L h
theorem lift_val (a b:Int) (t:Tm) (hl:leafT t.abs=true) (d L:Int) (h:0 ≤ (runM (gL a b) t d L).2) : (runM (gL a b) t d L).1.abs=rlift b (cleanT t.abs) (a+d) :=
  run_val (steadyL a b) (fun t d=>rlift b (cleanT t) (a+d)) (fun t d L x hl h _=>by
    unfold gL at h
    by_cases e:t.form=1∧a+d≤t.n
    · rw [if_pos e] at h
      cases h
      have hk := (leaf_tm hl).1 e.1
      rw [abs_eq t,clean_eq,rlift,hk,if_pos ⟨e.1,by rw [if_pos (.inl e.1)]; exact e.2⟩,e.1]
      rfl
    · rw [if_neg e] at h; cases h) (fun t d L hl h=>by
    unfold gL at h
    by_cases e:t.form=1∧a+d≤t.n
    · rw [if_pos e] at h; cases h
    · rw [mapI_lift]
      rw [abs_eq t,clean_eq,rlift,if_neg (fun hh=>e ⟨hh.1,by have:=hh.2; rw [if_pos (.inl hh.1)] at this; exact this⟩)]
      rfl) t hl d L h
def fewT (t:Trm):Bool:=allT (fun t=>decide (t.levels.length≤1000000000)) t
theorem few_eq (t:Trm):fewT t=true↔t.levels.length≤1000000000∧∀ k,k∈t.kids→fewT k=true:=by
  show allT _ t=true↔_
  rw [allT_eq,allTs_eq,Bool.and_eq_true,decide_eq_true_iff,List.all_eq_true]
  rfl
theorem few_clean:∀ t:Trm,fewT t=true→fewT (cleanT t)=true:=by
  refine Trm.ind ?_
  intro t ih h
  obtain ⟨h1,h2⟩ := (few_eq t).1 h
  rw [clean_tidy]
  refine (few_eq _).2 ⟨?_,fun k hk=>?_⟩
  · show (if t.form=2∨t.form=10 then t.levels else []).length≤_
    split
    · exact h1
    · simp
  · obtain ⟨x,hx,rfl⟩:=List.mem_map.1 hk
    exact ih x hx (h2 x hx)
theorem rlifts_mem (b f:Int):∀ (ks:List Trm) (i:Nat) (a:Int) (x:Trm),x∈rlifts b f i ks a→∃ k a',k∈ks∧x=rlift b k a'
  | [],_,_,x,hx=>by rw [rlifts] at hx; cases hx
  | k::t,i,a,x,hx=>by
    rw [rlifts] at hx
    rcases List.mem_cons.1 hx with rfl | hx
    · exact ⟨k,_,by simp,rfl⟩
    · obtain ⟨k',a',h1,h2⟩:=rlifts_mem b f t (i+1) a x hx
      exact ⟨k',a',by simp [h1],h2⟩
theorem kidsN_le (f:Int):kidsN f≤3:=by
  unfold kidsN
  repeat' split
  all_goals omega
theorem slim_of:∀ t:Trm,formedT t=true→fewT t=true→slimT t=true:=by
  refine Trm.ind ?_
  intro t ih hf hw
  rw [formedT_eq,Bool.and_eq_true,List.all_eq_true] at hf
  obtain ⟨w1,w2⟩ := (few_eq t).1 hw
  have hl:=part_len hf.1
  have h3:=kidsN_le t.form
  rw [slim_eq,Bool.and_eq_true,List.all_eq_true]
  refine ⟨?_,fun k hk=>ih k hk (hf.2 k hk) (w2 k hk)⟩
  have hp:=hf.1
  unfold partOk at hp
  rw [Bool.and_eq_true] at hp
  have hc:∀ l:List Lev,l.all Lev.canon=true → (l.all fun x=>decide (x.v.length≤1000000000))=true:=fun l h=>by
    rw [List.all_eq_true] at h ⊢
    intro x hx
    have:=h x hx
    unfold Lev.canon at this
    rw [Bool.and_eq_true] at this
    have := (right_iff.1 this.1).2.1
    exact decide_eq_true (by omega)
  rw [decide_eq_true (show t.kids.length≤1000000 by omega),Bool.true_and]
  by_cases e1:t.form=1
  · rw [if_pos (.inl e1)] at hp
    have:=of_decide_eq_true hp.2
    rw [e1]
    simp
    omega
  · rw [decide_eq_false e1]
    by_cases e2:t.form=2
    · rw [if_neg (by omega),if_neg (by omega),if_pos e2,Bool.and_eq_true] at hp
      simp only [hc _ hp.2.2,w1]
      simp
    · by_cases e10:t.form=10
      · rw [if_neg (by omega),if_neg (by omega),if_neg e2,if_pos e10,Bool.and_eq_true] at hp
        simp only [hc _ hp.2.2,w1]
        simp
      · rw [decide_eq_false (show ¬ (t.form=2∨t.form=10) by omega)]
        rfl
theorem sane_zero:saneT zeroT.abs=true:=by decide
theorem run_sane {g:Does} (hg:∀ t d L x,g t d L=some x→saneT x.1.abs=true):∀ t:Tm,slimT t.abs=true→∀ d L,saneT (runM g t d L).1.abs=true:=by
  refine Tm.ind ?_
  intro t ih hs d L
  obtain ⟨h1,_,h3,h4⟩:=slim_tm hs
  rw [runM_eq]
  split
  · exact sane_zero
  · cases e:g t d (L - 1) with
    | some x=>exact hg t d (L - 1) x e
    | none =>
      show saneT (bareT t (runMs g t.form 0 t.kids.el d (L - 1)).1).abs=true
      rw [bare_abs]
      refine (sane_eq _).2 ⟨⟨?_,?_⟩,?_⟩
      · show (if t.abs.form=2∨t.abs.form=10 then t.abs.levels else []).length≤_
        rw [abs_form,abs_levels]
        split
        · rename_i hh
          have := (h3 hh).1
          rw [List.length_map]; omega
        · simp
      · show ((runMs g t.form 0 t.kids.el d (L - 1)).1.map Tm.abs).length≤_
        rw [List.length_map,runMs_len]; omega
      · intro k hk
        obtain ⟨x,hx,rfl⟩:=List.mem_map.1 hk
        have key:∀ ks:List Tm,(∀ k,k∈ks→k∈t.kids.el)→∀ (i:Nat) (L:Int),∀ x,x ∈ (runMs g t.form i ks d L).1→saneT x.abs=true:=by
          intro ks
          induction ks with
          | nil=>intro _ i L x hx; rw [runMs_nil] at hx; cases hx
          | cons k ks ihk =>
            intro hks i L x hx
            rw [runMs_cons] at hx
            rcases List.mem_cons.1 hx with rfl | hx
            · exact ih k (hks k (by simp)) (h4 k (hks k (by simp))) _ _
            · exact ihk (fun x hx=>hks x (by simp [hx])) _ _ x hx
        exact key t.kids.el (fun _ h=>h) 0 (L - 1) x hx
theorem sane_runC (t:Tm) (hs:slimT t.abs=true) (d L:Int):saneT (runM gC t d L).1.abs=true:=run_sane (fun t d L x h=>by cases h) t hs d L
end Go.Proofs.Ytdijijblccmfbaa
