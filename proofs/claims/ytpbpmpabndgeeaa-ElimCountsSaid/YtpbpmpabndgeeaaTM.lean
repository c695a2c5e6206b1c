/- The program's map over a term, with what it counts down in a box: what it makes of a term, and how the count goes on. No condition but sizes. -/
import Derived.Test.YtpbpmpabndgeeaaTG
import Derived.Test.YtpbpmpabndgeeaaTD
import Derived.Test.YtpbpmpabndgeeaaTT
set_option linter.unusedSimpArgs false
set_option linter.unusedVariables false
namespace Go.Proofs.Ytpbpmpabndgeeaa
open Go
open Nat (reduceAdd reduceLT reduceLeDiff reduceEqDiff reduceMul)

theorem appD_empty {m:Nat} {g:Hps} {x:D} {xs:List D} (hs : (x::xs).length*16≤140737488355328):appD m g 2 16 (.sl 2 [] [] true) (.ok 2 (x::xs)) = .ok (.ms 2 m 0 (x::xs).length false) m ((m,.row 2 (x::xs))::g):=by
  show ifR (Nat.ble (lenL (x::xs)*16) most) (.ok (.ms 2 m 0 (lenL (x::xs)) false) m ((m,.row 2 (x::xs))::g))=_
  rw [lenL_eq,ble_iff,show most=140737488355328 from rfl,decide_eq_true hs]
  rfl
theorem eq_nil1 {m:Nat} {g:Hps}:obR m g false (eqD .slice .nils .nils) = .ok (.bool true) m g:=eqOf rfl
theorem eq_nil2 {m k:Nat} {g:Hps} {a b:List D} {f:Bool}:obR m g false (eqD .slice (.sl k a b f) .nils) = .ok (.bool false) m g:=eqOf rfl
theorem bsl_nil {m:Nat} {g:Hps}:bslD m g 2 [] = .ok (.sl 2 [] [] true) m g:=eqOf rfl
def cloneV (s:Sl LV):Sl LV:=bif s.nil && s.el.isEmpty && s.sp.isEmpty then s else match s.el with | []=>⟨false,true,[],[]⟩ | a::t=>Sl.app (a::t)
def cloneL (x:SLev):SLev:=⟨x.n,cloneV x.vs⟩
theorem cloneV_el (s:Sl LV) : (cloneV s).el=s.el:=by
  unfold cloneV
  cases s.nil && s.el.isEmpty && s.sp.isEmpty with
  | true=>rfl
  | false=>cases hl:s.el with
    | nil=>rfl
    | cons a t=>rfl
theorem cloneL_lev (x:SLev) : (cloneL x).lev=x.lev:=by unfold cloneL SLev.lev; rw [cloneV_el]
theorem pClone (n:Nat) (h:Hps) (hg:Gd n h) (s:Sl LV) (hs:s.el.length≤1000000000000):callFn (LX (cF Try.prog)) n h [slD 2 encV s] (cF Try.prog 87) = .ok (slD 2 encV (cloneV s)) n h:=by
  have hgn:=hg n (Nat.le_refl _)
  unfold cloneV
  cases hb : (s.nil && s.el.isEmpty && s.sp.isEmpty) with
  | true =>
    show _=Rd.ok (slD 2 encV s) n h
    have e:slD 2 encV s = .nils:=by unfold slD; rw [hb]; rfl
    rw [e]
    rw [f87_eq]; unfold c87; rw [callFn_eq (by rfl)]
    simp (disch:=first|assumption|omega|(simp (disch:=first|assumption|omega) only [sB,reduceAdd,reduceLT,reduceLeDiff,reduceEqDiff,reduceMul,↓reduceIte];done)|fail) only [sA,↓reduceIte,reduceLT,reduceEqDiff,reduceAdd,reduceLeDiff,eq_nil1]
  | false =>
    have e:slD 2 encV s = .sl 2 (s.el.map encV) (s.sp.map encV) s.full:=by unfold slD; rw [hb]; rfl
    cases hl:s.el with
    | nil =>
      rw [hl] at e
      show _=Rd.ok (.sl 2 [] [] true) n h
      rw [e]
      have a1:∀ m g,appD m g 2 16 (.sl 2 [] [] true) (.ok 2 []) = .ok (.sl 2 [] [] true) m g:=fun m g=>rfl
      simp only [List.map_nil]
      rw [f87_eq]; unfold c87; rw [callFn_eq (by rfl)]
      simp (disch:=first|assumption|omega|(simp (disch:=first|assumption|omega) only [sB,reduceAdd,reduceLT,reduceLeDiff,reduceEqDiff,reduceMul,↓reduceIte];done)|fail) only [sA,↓reduceIte,reduceLT,reduceEqDiff,reduceAdd,reduceLeDiff,a1,eq_nil2,bsl_nil]
    | cons a t =>
      show _=Rd.ok (slD 2 encV (Sl.app (a::t))) n h
      rw [hl] at e
      have hs' : (encV a::t.map encV).length*16≤140737488355328:=by rw [hl] at hs; simp at hs ⊢; omega
      have a1:=fun m g=>appD_empty (m:=m) (g:=g) (x:=encV a) (xs:=t.map encV) hs'
      have B:∀ m,n≤m→Bld 2 encV n (a::t) ((m,.row 2 ((a::t).map encV))::h) (.ms 2 m 0 (a::t).length false):=fun m hm => .inr ⟨m,by simp,hm,rfl,getO_hd⟩
      have F:∀ m k,n≤m→m < k→finishD n k ((m,.row 2 (encV a::t.map encV))::h) (.ms 2 m 0 (t.length+1) false) = .ok (slD 2 encV (Sl.app (a::t))) n h:=fun m k hm hk=>by
        exact finish_bld elemV (B m hm) ((Hp.start hg).cons (r:=m) (m:=k) hm hk (fun q _=>lowO_map (k:=2) (l:=a::t) (fun x=>lowV q x)))
      rw [e]
      simp only [List.map_cons]
      rw [f87_eq]; unfold c87; rw [callFn_eq (by rfl)]
      simp (disch:=first|assumption|omega|(simp (disch:=first|assumption|omega) only [sB,reduceAdd,reduceLT,reduceLeDiff,reduceEqDiff,reduceMul,↓reduceIte];done)|fail) only [sA,↓reduceIte,reduceLT,reduceEqDiff,reduceAdd,reduceLeDiff,a1,List.length_cons,F,eq_nil2,bsl_nil]

theorem elemL:ElemOk 2 encL:=⟨fun c=>by unfold encL; simp [flat2_agg,flat1_slD,flat1_int],fun c=>by
  show Bool.and (okF 2 (encL c)) (clo 20 (encL c))=true
  unfold encL
  show Bool.and true (allL (clo 19) [.int .i64 c.n,slD 2 encV c.vs])=true
  rw [allL_eq]
  simp [clo_slD]
  rfl⟩
theorem lowL (m:Nat) (c:SLev):low m (encL c):=low_flat (flatL c)
set_option maxHeartbeats 4000000 in
theorem pRawLevels (n:Nat) (h:Hps) (hg:Gd n h) (ls:Sl SLev) (hl:ls.el.length≤1000000000) (hs:∀ x,x∈ls.el→x.vs.el.length≤1000000000):callFn (LX (cF Try.prog)) n h [slD 2 encL ls] (cF Try.prog 73) = .ok (slD 2 encL (Sl.app (ls.el.map cloneL))) n h:=by
  have hgn:=hg n (Nat.le_refl _)
  rw [f73_eq]; unfold c73; rw [callFn_eq (by rfl)]
  simp (disch:=first|assumption|omega|(simp (disch:=first|assumption|omega) only [sB,reduceAdd,reduceLT,reduceLeDiff,reduceEqDiff,reduceMul,↓reduceIte];done)|fail) only [sA,↓reduceIte,reduceLT,reduceEqDiff,reduceAdd,reduceLeDiff]
  generalize hr:LX (cF Try.prog) (.loop l73_0) _ _ _=r
  obtain ⟨x,e2,n2,h2,rfl,rfl,H2,d,B,q3⟩:=loop_up hr ls.el.length
    (fun i e n' h'=>Hp n h n' h' ∧ (∃ d,Bld 2 encL n ((ls.el.take i).map cloneL) h' d∧get (po 3) e=d)∧get (po 6) e=slD 2 encL ls∧get (po 7) e = .int .i64 (ls.el.length:Nat)∧get (po 8) e = .int .i64 (i:Nat))
    (fun x e n' h'=>x = .exit 0∧Hp n h n' h'∧∃ d,Bld 2 encL n (ls.el.map cloneL) h' d∧get (po 3) e=d)
    (by
      rintro e n' h' ⟨H,⟨d,B,g3⟩,g6,g7,g8⟩
      rw [List.take_length] at B
      unfold l73_0
      simp (disch:=first|assumption|omega|(simp (disch:=first|assumption|omega) only [sB,reduceAdd,reduceLT,reduceLeDiff,reduceEqDiff,reduceMul,↓reduceIte];done)|fail) only [sA,↓reduceIte,reduceLT,reduceEqDiff,reduceAdd,reduceLeDiff,g3,g6,g7,g8]
      exact ⟨_,_,_,_,rfl,by simp,rfl,H.mono (by omega),d,B,by simp +decide only [sG,g3]⟩)
    (by
      rintro i e n' h' hi ⟨H,⟨d,B,g3⟩,g6,g7,g8⟩
      have hsi:=hs ls.el[i] (List.getElem_mem hi)
      have c1:∀ m,callFn (LX (cF Try.prog)) m [] [slD 2 encV ls.el[i].vs] (cF Try.prog 87) = .ok (slD 2 encV (cloneV ls.el[i].vs)) m []:=fun m=>pClone m [] (fun _ _=>good_nil) _ (by omega)
      have H1:Hp n h (n'+4) ((n'+3,.row 2 [(D.agg [.int .i64 (ls.el[i].n),slD 2 encV (ls.el[i].vs)])])::h'):=H.box (r:=n'+3) (m:=n'+4) (by omega) (by omega) (flatL _)
      have B1:Bld 2 encL n ((ls.el.take i).map cloneL) ((n'+3,.row 2 [(D.agg [.int .i64 (ls.el[i].n),slD 2 encV (ls.el[i].vs)])])::h') d:=B.cons (H.good n' (Nat.le_refl _)) (by omega)
      have hbo:=B.okD
      obtain ⟨D',H',A⟩:=app_bldx (b:=32) B1 H1 (Nat.le_refl _) H1.le lowL [cloneL ls.el[i]] (by simp; omega)
      have A1:=fun m hm => (A m hm).1
      simp only [encL,List.map_cons,List.map_nil,cloneL] at A1
      have hky:∀ m,n'+4≤m→keysFrom m ((n'+3,.row 2 [(D.agg [.int .i64 (ls.el[i].n),slD 2 encV (ls.el[i].vs)])])::h')=[]:=fun m hm=>keys_low (H1.good m hm)
      unfold l73_0
      simp (disch:=first|assumption|omega|(simp (disch:=first|assumption|omega) only [sB,reduceAdd,reduceLT,reduceLeDiff,reduceEqDiff,reduceMul,↓reduceIte,app_el,hi];done)|fail) only [sA,↓reduceIte,reduceLT,reduceEqDiff,reduceAdd,reduceLeDiff,g3,g6,g7,g8,encL,c1,hbo,A1,hky,app_el,hi]
      exact ⟨_,_,_,_,rfl,.inl ⟨rfl,((A _ (by omega)).2.2.1).mono (by omega),⟨_,by rw [← List.take_append_getElem hi,List.map_append]; exact (A _ (by omega)).2.1,by simp +decide only [sG]⟩,by simp +decide only [sG,g6],by simp +decide only [sG,g7],by simp +decide only [sG]⟩⟩)
    ⟨(Hp.start hg).mono (by omega),⟨.nils,.inl ⟨by simp,rfl⟩,by simp +decide only [sG]⟩,by simp +decide only [sG],by simp +decide only [sG],by simp (disch:=first|assumption|omega|(simp (disch:=first|assumption|omega) only [sB,reduceAdd,reduceLT,reduceLeDiff,reduceEqDiff,reduceMul,↓reduceIte];done)|fail) only [sA,↓reduceIte,reduceLT,reduceEqDiff,reduceAdd,reduceLeDiff]⟩
  simp (disch:=first|assumption|omega|(simp (disch:=first|assumption|omega) only [sB,reduceAdd,reduceLT,reduceLeDiff,reduceEqDiff,reduceMul,↓reduceIte];done)|fail) only [sA,↓reduceIte,reduceLT,reduceEqDiff,reduceAdd,reduceLeDiff,q3,finish_bld elemL B (H2.mono (show n2≤n2+2 by omega))]
theorem pBinds (n:Nat) (h:Hps) (hg:Gd n h) (f:Int):callFn (LX (cF Try.prog)) n h [.int .i64 f] (cF Try.prog 92) = .ok (.bool (bindsN f)) n h:=by
  have hgn:=hg n (Nat.le_refl _)
  rw [f92_eq]; unfold c92; rw [callFn_eq (by rfl)]
  by_cases h3:f=3
  · subst h3; rw [show bindsN 3=true from rfl]; simp (disch:=first|assumption|omega|(simp (disch:=first|assumption|omega) only [sB,reduceAdd,reduceLT,reduceLeDiff,reduceEqDiff,reduceMul,↓reduceIte];done)|fail) only [sA,↓reduceIte,reduceLT,reduceEqDiff,reduceAdd,reduceLeDiff]
  by_cases h4:f=4
  · subst h4; rw [show bindsN 4=true from rfl]; simp (disch:=first|assumption|omega|(simp (disch:=first|assumption|omega) only [sB,reduceAdd,reduceLT,reduceLeDiff,reduceEqDiff,reduceMul,↓reduceIte];done)|fail) only [sA,↓reduceIte,reduceLT,reduceEqDiff,reduceAdd,reduceLeDiff]
  by_cases h6:f=6
  · subst h6; rw [show bindsN 6=true from rfl]; simp (disch:=first|assumption|omega|(simp (disch:=first|assumption|omega) only [sB,reduceAdd,reduceLT,reduceLeDiff,reduceEqDiff,reduceMul,↓reduceIte];done)|fail) only [sA,↓reduceIte,reduceLT,reduceEqDiff,reduceAdd,reduceLeDiff]
  have e:bindsN f=false:=by unfold bindsN; rw [decide_eq_false (by omega)]
  rw [e]
  simp (disch:=first|assumption|omega|(simp (disch:=first|assumption|omega) only [sB,reduceAdd,reduceLT,reduceLeDiff,reduceEqDiff,reduceMul,↓reduceIte];done)|fail) only [sA,↓reduceIte,reduceLT,reduceEqDiff,reduceAdd,reduceLeDiff,h3,h4,h6]
theorem pUnder (n:Nat) (h:Hps) (hg:Gd n h) (f:Int) (i:Nat) (d:Int) (hd:0≤d∧d≤1000000000):callFn (LX (cF Try.prog)) n h [.int .i64 f,.int .i64 (i:Nat),.int .i64 d] (cF Try.prog 83) = .ok (.int .i64 (undr f i d)) n h:=by
  have hgn:=hg n (Nat.le_refl _)
  have c1:∀ m,n≤m→callFn (LX (cF Try.prog)) m h [.int .i64 f] (cF Try.prog 92) = .ok (.bool (bindsN f)) m h:=fun m hm=>pBinds m h (hg.mono hm) f
  unfold undr
  rw [f83_eq]; unfold c83; rw [callFn_eq (by rfl)]
  by_cases h1:i=1
  · subst h1
    generalize bindsN f=b at c1 ⊢
    cases b
    · simp (disch:=first|assumption|omega|(simp (disch:=first|assumption|omega) only [sB,reduceAdd,reduceLT,reduceLeDiff,reduceEqDiff,reduceMul,↓reduceIte];done)|fail) only [sA,↓reduceIte,reduceLT,reduceEqDiff,reduceAdd,reduceLeDiff,c1]
      simp
    · simp (disch:=first|assumption|omega|(simp (disch:=first|assumption|omega) only [sB,reduceAdd,reduceLT,reduceLeDiff,reduceEqDiff,reduceMul,↓reduceIte];done)|fail) only [sA,↓reduceIte,reduceLT,reduceEqDiff,reduceAdd,reduceLeDiff,c1]
      simp
  · rw [if_neg (fun hh=>h1 hh.1)]
    have h2:¬ ((i:Int)=1):=by omega
    simp (disch:=first|assumption|omega|(simp (disch:=first|assumption|omega) only [sB,reduceAdd,reduceLT,reduceLeDiff,reduceEqDiff,reduceMul,↓reduceIte];done)|fail) only [sA,↓reduceIte,reduceLT,reduceEqDiff,reduceAdd,reduceLeDiff,h2]
theorem pVar (n:Nat) (h:Hps) (hg:Gd n h) (a:Int):callFn (LX (cF Try.prog)) n h [.int .i64 a] (cF Try.prog 35) = .ok (.agg [.int .i64 1,.int .i64 a,.bool false,.str [],.nils,.nils]) n h:=by
  have hgn:=hg n (Nat.le_refl _)
  rw [f35_eq]; unfold c35; rw [callFn_eq (by rfl)]
  simp (disch:=first|assumption|omega|(simp (disch:=first|assumption|omega) only [sB,reduceAdd,reduceLT,reduceLeDiff,reduceEqDiff,reduceMul,↓reduceIte];done)|fail) only [sA,↓reduceIte,reduceLT,reduceEqDiff,reduceAdd,reduceLeDiff]
def bareT (t:Tm) (ks:List Tm):Tm := .mk t.form (if t.form=1∨t.form=11 then t.n else 0) (if t.form=3∨t.form=4∨t.form=5 then t.hid else false) (if t.form=10 then t.name else []) (if t.form=2∨t.form=10 then Sl.app (t.levels.el.map cloneL) else Sl.app []) true false ks []
def thin (t:Tm):Prop:=t.form=2∨t.form=10→t.levels.el.length≤1000000000∧∀ x,x∈t.levels.el→x.vs.el.length≤1000000000
theorem gd_bare {m r k:Nat} {f:Int} {g:Hps} (h:r < m):Gd m ((r,.row k [.agg [.int .i64 f,.int .i64 0,.bool false,.str [],.nils,.nils]])::g)=Gd m g:=gd_flat rfl h
theorem gd_tmf {m r k:Nat} {f a:Int} {b:Bool} {c:List Nat} {l:Sl SLev} {ks:Sl Tm} {g:Hps} (h:r < m):Gd m ((r,.row k [.agg [.int .i64 f,.int .i64 a,.bool b,.str c,slD 2 encL l,slD 6 encT ks]])::g)=Gd m g:=gd_flat (flatTA (.mk f a b c l ks.nil ks.full ks.el ks.sp)) h
set_option maxHeartbeats 4000000 in
theorem pBare (n:Nat) (h:Hps) (hg:Gd n h) (t:Tm) (ht:thin t):callFn (LX (cF Try.prog)) n h [(D.agg [.int .i64 (t).form,.int .i64 (t).n,.bool (t).hid,.str (t).name,slD 2 encL (t).levels,slD 6 encT (t).kids])] (cF Try.prog 82) = .ok (encT (bareT t [])) n h:=by
  have hgn:=hg n (Nat.le_refl _)
  have hG:∀ m,n≤m→Gd m h:=fun m hm=>Gd.mono hg hm
  have e:encT (bareT t []) = .agg [.int .i64 t.form,.int .i64 (if t.form=1∨t.form=11 then t.n else 0),.bool (if t.form=3∨t.form=4∨t.form=5 then t.hid else false),.str (if t.form=10 then t.name else []),slD 2 encL (if t.form=2∨t.form=10 then Sl.app (t.levels.el.map cloneL) else Sl.app []),.nils]:=rfl
  rw [e]
  have e1:slD 2 encL (Sl.app []) = .nils:=rfl
  unfold thin at ht
  generalize hf:t.form=f at *
  by_cases h2:f=2
  · subst h2
    have c1:∀ m h,Gd m h→callFn (LX (cF Try.prog)) m h [slD 2 encL t.levels] (cF Try.prog 73) = .ok (slD 2 encL (Sl.app (t.levels.el.map cloneL))) m h:=fun m h hg=>pRawLevels m h hg _ (ht (.inl rfl)).1 (ht (.inl rfl)).2
    rw [f82_eq]; unfold c82; rw [callFn_eq (by rfl)]
    simp (disch:=first|assumption|omega|(simp (disch:=first|assumption|omega) only [sB,reduceAdd,reduceLT,reduceLeDiff,reduceEqDiff,reduceMul,↓reduceIte,hG,gd_tmf,gd_zt,gd_bare];done)|fail) only [sA,↓reduceIte,reduceLT,reduceEqDiff,reduceAdd,reduceLeDiff,hf,c1,hG,gd_tmf,gd_zt,gd_bare]
    rfl
  by_cases h10:f=10
  · subst h10
    have c1:∀ m h,Gd m h→callFn (LX (cF Try.prog)) m h [slD 2 encL t.levels] (cF Try.prog 73) = .ok (slD 2 encL (Sl.app (t.levels.el.map cloneL))) m h:=fun m h hg=>pRawLevels m h hg _ (ht (.inr rfl)).1 (ht (.inr rfl)).2
    rw [f82_eq]; unfold c82; rw [callFn_eq (by rfl)]
    simp (disch:=first|assumption|omega|(simp (disch:=first|assumption|omega) only [sB,reduceAdd,reduceLT,reduceLeDiff,reduceEqDiff,reduceMul,↓reduceIte,hG,gd_tmf,gd_zt,gd_bare,gd_nil];done)|fail) only [sA,↓reduceIte,reduceLT,reduceEqDiff,reduceAdd,reduceLeDiff,hf,c1,keys_gd,hG,gd_tmf,gd_zt,gd_bare,gd_nil]
    rfl
  clear ht
  by_cases h1:f=1
  · subst h1; rw [f82_eq]; unfold c82; rw [callFn_eq (by rfl)]; simp (disch:=first|assumption|omega|(simp (disch:=first|assumption|omega) only [sB,reduceAdd,reduceLT,reduceLeDiff,reduceEqDiff,reduceMul,↓reduceIte,hG,gd_tmf,gd_zt];done)|fail) only [sA,↓reduceIte,reduceLT,reduceEqDiff,reduceAdd,reduceLeDiff,hf,e1,hG,gd_tmf,gd_zt]; rfl
  by_cases h11:f=11
  · subst h11; rw [f82_eq]; unfold c82; rw [callFn_eq (by rfl)]; simp (disch:=first|assumption|omega|(simp (disch:=first|assumption|omega) only [sB,reduceAdd,reduceLT,reduceLeDiff,reduceEqDiff,reduceMul,↓reduceIte,hG,gd_tmf,gd_zt];done)|fail) only [sA,↓reduceIte,reduceLT,reduceEqDiff,reduceAdd,reduceLeDiff,hf,e1,hG,gd_tmf,gd_zt]; rfl
  by_cases h3:f=3
  · subst h3; rw [f82_eq]; unfold c82; rw [callFn_eq (by rfl)]; simp (disch:=first|assumption|omega|(simp (disch:=first|assumption|omega) only [sB,reduceAdd,reduceLT,reduceLeDiff,reduceEqDiff,reduceMul,↓reduceIte,hG,gd_tmf,gd_zt];done)|fail) only [sA,↓reduceIte,reduceLT,reduceEqDiff,reduceAdd,reduceLeDiff,hf,e1,hG,gd_tmf,gd_zt]; rfl
  by_cases h4:f=4
  · subst h4; rw [f82_eq]; unfold c82; rw [callFn_eq (by rfl)]; simp (disch:=first|assumption|omega|(simp (disch:=first|assumption|omega) only [sB,reduceAdd,reduceLT,reduceLeDiff,reduceEqDiff,reduceMul,↓reduceIte,hG,gd_tmf,gd_zt];done)|fail) only [sA,↓reduceIte,reduceLT,reduceEqDiff,reduceAdd,reduceLeDiff,hf,e1,hG,gd_tmf,gd_zt]; rfl
  by_cases h5:f=5
  · subst h5; rw [f82_eq]; unfold c82; rw [callFn_eq (by rfl)]; simp (disch:=first|assumption|omega|(simp (disch:=first|assumption|omega) only [sB,reduceAdd,reduceLT,reduceLeDiff,reduceEqDiff,reduceMul,↓reduceIte,hG,gd_tmf,gd_zt];done)|fail) only [sA,↓reduceIte,reduceLT,reduceEqDiff,reduceAdd,reduceLeDiff,hf,e1,hG,gd_tmf,gd_zt]; rfl
  rw [if_neg (by omega),if_neg (by omega),if_neg (by omega),if_neg (by omega)]
  rw [f82_eq]; unfold c82; rw [callFn_eq (by rfl)]
  simp (disch:=first|assumption|omega|(simp (disch:=first|assumption|omega) only [sB,reduceAdd,reduceLT,reduceLeDiff,reduceEqDiff,reduceMul,↓reduceIte,hG,gd_tmf,gd_zt];done)|fail) only [sA,↓reduceIte,reduceLT,reduceEqDiff,reduceAdd,reduceLeDiff,hf,e1,h1,h2,h3,h4,h5,h10,h11,hG,gd_tmf,gd_zt]
def Cnt (r:Nat) (L:Int) (h h':Hps):Prop:=getO h' r = .row 1 [.int .i64 L] ∧ (∀ p,p∈h' → (∃ x,p = (r,.row 1 [.int .i64 x]))∨p∈h) ∧ (∀ q,q≠r→getO h' q=getO h q)∧delO h' r=delO h r
theorem mem_setO {h:Hps} {r:Nat} {x:Ob} {p:Nat×Ob} (hp:p∈setO h r x):p = (r,x)∨p∈h:=by
  induction h with
  | nil=>cases hp
  | cons a t ih =>
    obtain ⟨q,o⟩:=a
    by_cases e:q=r
    · subst e
      rw [setO_hd] at hp
      rcases List.mem_cons.1 hp with rfl | hp
      · exact .inl rfl
      · exact .inr (by simp [hp])
    · rw [setO_tl e] at hp
      rcases List.mem_cons.1 hp with rfl | hp
      · exact .inr (by simp)
      · rcases ih hp with h | h
        · exact .inl h
        · exact .inr (by simp [h])
theorem mem_delO {h:Hps} {r:Nat} {p:Nat×Ob} (hp:p∈delO h r):p∈h∧p.1≠r:=by
  induction h with
  | nil=>cases hp
  | cons a t ih =>
    obtain ⟨q,o⟩:=a
    by_cases e:q=r
    · subst e
      rw [delO_hd] at hp
      exact ⟨by simp [(ih hp).1],(ih hp).2⟩
    · rw [delO_tl e] at hp
      rcases List.mem_cons.1 hp with rfl | hp
      · exact ⟨by simp,e⟩
      · exact ⟨by simp [(ih hp).1],(ih hp).2⟩
theorem mem_drop {h:Hps} {n:Nat} {p:Nat×Ob}:p∈dropFrom n h↔p∈h∧p.1 < n:=by
  induction h with
  | nil=>exact ⟨fun h => (by cases h),fun h => (by cases h.1)⟩
  | cons a t ih =>
    obtain ⟨q,o⟩:=a
    by_cases e:q < n
    · rw [drop_old e,List.mem_cons,List.mem_cons,ih]
      constructor
      · rintro (rfl | h)
        · exact ⟨.inl rfl,e⟩
        · exact ⟨.inr h.1,h.2⟩
      · rintro ⟨rfl | h,h2⟩
        · exact .inl rfl
        · exact .inr ⟨h,h2⟩
    · rw [drop_new (by omega),ih,List.mem_cons]
      constructor
      · rintro ⟨h1,h2⟩; exact ⟨.inr h1,h2⟩
      · rintro ⟨rfl | h,h2⟩
        · exact absurd h2 e
        · exact ⟨h,h2⟩
theorem leak_iff {h:Hps} {n:Nat}:leak n h=false↔∀ p,p∈h→p.1 < n→lowO n p.2:=by
  induction h with
  | nil=>exact ⟨fun _ p hp => (by cases hp),fun _=>rfl⟩
  | cons a t ih =>
    obtain ⟨q,o⟩:=a
    by_cases e:q < n
    · rw [leak_old e,Bool.or_eq_false_iff,ih]
      constructor
      · rintro ⟨h1,h2⟩ p hp hq
        rcases List.mem_cons.1 hp with rfl | hp
        · exact h1
        · exact h2 p hp hq
      · intro H
        exact ⟨H (q,o) (by simp) e,fun p hp=>H p (by simp [hp])⟩
    · rw [leak_new (by omega),ih]
      constructor
      · intro H p hp hq
        rcases List.mem_cons.1 hp with rfl | hp
        · exact absurd hq e
        · exact H p hp hq
      · intro H p hp; exact H p (by simp [hp])
theorem lowI {m:Nat} {x:Int}:lowO m (.row 1 [.int .i64 x]):=lowO_one (low_flat rfl)
theorem delO_setO {h:Hps} {r:Nat} {x:Ob}:delO (setO h r x) r=delO h r:=by
  induction h with
  | nil=>rfl
  | cons a t ih =>
    obtain ⟨q,o⟩:=a
    by_cases e:q=r
    · subst e; rw [setO_hd,delO_hd,delO_hd]
    · rw [setO_tl e,delO_tl e,delO_tl e,ih]
theorem delO_twice {h:Hps} {r:Nat}:delO (delO h r) r=delO h r:=delO_out (fun p hp => (mem_delO hp).2)
theorem drop_delO {h:Hps} {r n:Nat}:dropFrom n (delO h r)=delO (dropFrom n h) r:=by
  induction h with
  | nil=>rfl
  | cons a t ih =>
    obtain ⟨q,o⟩:=a
    by_cases e:q=r
    · subst e
      rw [delO_hd,ih]
      by_cases e2:q < n
      · rw [drop_old e2,delO_hd]
      · rw [drop_new (by omega)]
    · rw [delO_tl e]
      by_cases e2:q < n
      · rw [drop_old e2,drop_old e2,delO_tl e,ih]
      · rw [drop_new (by omega),drop_new (by omega),ih]
theorem Cnt.get {h h':Hps} {r q:Nat} {L:Int} (U:Cnt r L h h') (hq:q≠r):getO h' q=getO h q:=U.2.2.1 q hq
theorem Cnt.set {h:Hps} {r:Nat} {L x:Int} (hb:getO h r = .row 1 [.int .i64 x]):Cnt r L h (setO h r (.row 1 [.int .i64 L])) :=
  ⟨getO_setO_same (by rw [hb]; simp),fun p hp => (mem_setO hp).imp (fun h=>⟨L,h⟩) id,fun q hq=>by rw [getO_setO _ _ _ _ (by rw [hb]; simp),if_neg hq],delO_setO⟩
theorem Cnt.refl {h:Hps} {r:Nat} {L:Int} (hb:getO h r = .row 1 [.int .i64 L]):Cnt r L h h:=⟨hb,fun p hp => .inr hp,fun _ _=>rfl,rfl⟩
theorem Cnt.trans {h h1 h2:Hps} {r:Nat} {L M:Int} (a:Cnt r L h h1) (b:Cnt r M h1 h2):Cnt r M h h2 :=
  ⟨b.1,fun p hp => (b.2.1 p hp).elim .inl (a.2.1 p),fun q hq => (b.get hq).trans (a.get hq),b.2.2.2.trans a.2.2.2⟩
theorem Cnt.gd {h h':Hps} {r n:Nat} {L:Int} (a:Cnt r L h h') (hr:r < n) (hg:Gd n h):Gd n h':=fun k hk p hp=>by
  rcases a.2.1 p hp with ⟨x,rfl⟩ | hp
  · exact ⟨by show r < k; omega,lowI⟩
  · exact hg k hk p hp
theorem Cnt.hp {n m r:Nat} {L:Int} {hb g g1:Hps} (H:Hp n hb m g) (U:Cnt r L g g1) (hr:r < n):∃ hb1,Hp n hb1 m g1∧Cnt r L hb hb1:=by
  have hle:=H.le
  have hd:=H.drop
  refine ⟨dropFrom n g1,⟨hle,fun k hk=>U.gd (by omega) (fun j hj=>H.good j hj) k hk,rfl,?_⟩,?_,?_,?_,?_⟩
  · rw [leak_iff]
    intro p hp hq
    rcases U.2.1 p hp with ⟨x,rfl⟩ | hp
    · exact lowI
    · exact leak_iff.1 H.leak p hp hq
  · rw [getO_dropFrom,if_pos hr]; exact U.1
  · intro p hp
    obtain ⟨h1,h2⟩:=mem_drop.1 hp
    rcases U.2.1 p h1 with h | h
    · exact .inl h
    · right; rw [← hd]; exact mem_drop.2 ⟨h,h2⟩
  · intro q hq
    rw [← hd,getO_dropFrom,getO_dropFrom,U.get hq]
  · rw [← hd,← drop_delO,← drop_delO,U.2.2.2]
theorem Cnt.own {n m q:Nat} {L:Int} {hb g g1:Hps} (H:Hp n hb m g) (U:Cnt q L g g1) (hq:n≤q) (hm:q < m):Hp n hb m g1:=by
  have hle:=H.le
  refine ⟨hle,fun k hk=>U.gd hm (fun j hj=>H.good j hj) k hk,?_,?_⟩
  · have e1:dropFrom n (delO g1 q)=dropFrom n g1:=by rw [drop_delO]; exact delO_out (fun p hp=>by have := (mem_drop.1 hp).2; omega)
    have e2:dropFrom n (delO g q)=dropFrom n g:=by rw [drop_delO]; exact delO_out (fun p hp=>by have := (mem_drop.1 hp).2; omega)
    rw [← e1,U.2.2.2,e2,H.drop]
  · rw [leak_iff]
    intro p hp hq2
    rcases U.2.1 p hp with ⟨x,rfl⟩ | hp
    · exact lowI
    · exact leak_iff.1 H.leak p hp hq2
theorem Cnt.start {n r:Nat} {L:Int} {h h':Hps} (U:Cnt r L h h') (hr:r < n) (hg:Gd n h):Hp n h' n h':=Hp.start (U.gd hr hg)

theorem memN_self {r:Nat}:memN r [r]=true:=by rw [memN_cons,decide_eq_true rfl]; rfl
theorem inH_all {p:Nat→Bool} {g:Hps} : (∀ x,x∈g→p x.1=true∧inO p x.2=true)→inH p g=true:=by
  intro H
  induction g with
  | nil=>rfl
  | cons a t ih =>
    obtain ⟨q,o⟩:=a
    show Bool.and (p q) (Bool.and (inO p o) (inH p t))=true
    have:=H (q,o) (by simp)
    rw [this.1,this.2,ih (fun x hx=>H x (by simp [hx]))]; rfl
theorem inT {p:Nat→Bool} {t:Tm}:inD p 20 (encT t)=true:=by
  rw [encT_eq,in_agg]
  simp [in_int,in_bool,in_str,in_slD]
theorem rdT {f:Nat} {t:Tm}:rd (f+2) (D.agg [.int .i64 (t).form,.int .i64 (t).n,.bool (t).hid,.str (t).name,slD 2 encL (t).levels,slD 6 encT (t).kids])=[]:=by
  have e:∀ {α:Type} (k:Nat) (enc:α→D) (s:Sl α),rd (f+1) (slD k enc s)=[]:=fun k enc s=>by rcases slD_isSl k enc s with ⟨h1,_⟩ | ⟨_,_,h1⟩ <;> rw [h1] <;> rfl
  show appN [] (appN [] (appN [] (appN [] (appN (rd (f+1) (slD 2 encL t.levels)) (appN (rd (f+1) (slD 6 encT t.kids)) [])))))=[]
  rw [e,e]; rfl
theorem reach_one {h:Hps} {r f:Nat} {x:Int} {l:List Nat} (hb:getO h r = .row 1 [.int .i64 x]) (hl:l=[]∨l=[r]):reach h (f+3) (r::l) []=[r]:=by
  have e:reach h (f+3) (r::l) []=reach h (f+2) (appN (rdOb (getO h r)) l) [r]:=rfl
  rw [e,hb]
  have e1:appN (rdOb (.row 1 [.int .i64 x])) l=l:=rfl
  rw [e1]
  rcases hl with rfl | rfl
  · rfl
  · show Bool.rec (motive:=fun _=>List Nat) _ (reach h (f+1) [] [r]) (memN r [r])=_
    rw [memN_self]; rfl
theorem reach_cnt {h:Hps} {r q:Nat} {t:Tm} {d x:Int} {c:D} (hb:getO h r = .row 1 [.int .i64 x]) (hc:rd 20 c=[]∨rd 20 c=[r]):reachC h [(D.agg [.int .i64 (t).form,.int .i64 (t).n,.bool (t).hid,.str (t).name,slD 2 encL (t).levels,slD 6 encT (t).kids]),.int .i64 d,.ptr r 0 0,c] (.fn q [] [])=[r]:=by
  show reach h (4093+3) (appN (appN (rd (18+2) (D.agg [.int .i64 (t).form,.int .i64 (t).n,.bool (t).hid,.str (t).name,slD 2 encL (t).levels,slD 6 encT (t).kids])) (appN [] (appN [r] (appN (rd 20 c) [])))) []) []=[r]
  rw [rdT]
  rcases hc with h1 | h1 <;> rw [h1]
  · exact reach_one hb (.inl rfl)
  · exact reach_one hb (.inr rfl)
theorem appH_eq (a b:Hps):appH a b=a++b:=by
  induction a with
  | nil=>rfl
  | cons x t ih=>exact congrArg (x::·) ih
theorem sub_cnt {call:CallF} {m r q:Nat} {h gg:Hps} {t v:Tm} {d L L':Int} {c:D} (hb:getO h r = .row 1 [.int .i64 L]) (hr:r≤m) (hc:rd 20 c=[]∨rd 20 c=[r]) (hci:inD (fun x=>memN x [r]) 20 c=true)
    (hcall:call (m+1) [(r,.row 1 [.int .i64 L])] (.fn q [] []) [(D.agg [.int .i64 (t).form,.int .i64 (t).n,.bool (t).hid,.str (t).name,slD 2 encL (t).levels,slD 6 encT (t).kids]),.int .i64 d,.ptr r 0 0,c] = .ok (encT v) (m+1) gg) (U:Cnt r L' [(r,.row 1 [.int .i64 L])] gg) :
    ∃ g1,subC call (reachC h [(D.agg [.int .i64 (t).form,.int .i64 (t).n,.bool (t).hid,.str (t).name,slD 2 encL (t).levels,slD 6 encT (t).kids]),.int .i64 d,.ptr r 0 0,c] (.fn q [] [])) m h (.fn q [] []) [(D.agg [.int .i64 (t).form,.int .i64 (t).n,.bool (t).hid,.str (t).name,slD 2 encL (t).levels,slD 6 encT (t).kids]),.int .i64 d,.ptr r 0 0,c] = .ok (encT v) (m+1) g1∧Cnt r L' h g1:=by
  have hgg:∀ x,x∈gg→∃ y,x = (r,.row 1 [.int .i64 y]):=fun x hx=>by
    rcases U.2.1 x hx with h | h
    · exact h
    · exact ⟨L,List.mem_singleton.1 h⟩
  refine ⟨appH gg (delO h r),?_,?_,?_,?_,?_⟩
  · rw [reach_cnt hb hc]
    show pureC [r] m h _ _ (call (m+1) [(r,getO h r)] _ _)=_
    rw [hb,hcall]
    have f1:allN (fun r'=>Nat.ble r' m) [r]=true:=by
      show Bool.and (Nat.ble r m) true=true
      rw [ble_iff,decide_eq_true hr]; rfl
    have f3:allL (inD (fun r'=>memN r' [r]) 20) [(D.agg [.int .i64 (t).form,.int .i64 (t).n,.bool (t).hid,.str (t).name,slD 2 encL (t).levels,slD 6 encT (t).kids]),.int .i64 d,.ptr r 0 0,c]=true:=by
      rw [allL_eq,List.all_cons,List.all_cons,List.all_cons,List.all_cons,List.all_nil,← encT_eq,inT,hci,in_int,in_ptr,memN_self]
      rfl
    have f4:inH (fun r'=>memN r' [r]) (subH [r] h)=true:=inH_all (fun x hx=>by
      have:x = (r,getO h r):=List.mem_singleton.1 hx
      rw [this,hb]
      exact ⟨memN_self,rfl⟩)
    have f5:inH (ofR [r] (m+1)) gg=true:=inH_all (fun x hx=>by
      obtain ⟨y,rfl⟩:=hgg x hx
      refine ⟨?_,rfl⟩
      show Bool.or (Nat.ble (m+1) r) (memN r [r])=true
      rw [memN_self]; cases Nat.ble (m+1) r <;> rfl)
    show ifR (Bool.and (allN (fun r'=>Nat.ble r' m) [r]) (Bool.and true (Bool.and (allL (inD (fun r'=>memN r' [r]) 20) [(D.agg [.int .i64 (t).form,.int .i64 (t).n,.bool (t).hid,.str (t).name,slD 2 encL (t).levels,slD 6 encT (t).kids]),.int .i64 d,.ptr r 0 0,c]) (Bool.and (inH (fun r'=>memN r' [r]) (subH [r] h)) (Bool.and (inD (ofR [r] (m+1)) 20 (encT v)) (inH (ofR [r] (m+1)) gg)))))) (.ok _ _ _)=_
    rw [f1,f3,f4,f5,inT]
    rfl
  · have hk:r∈gg.map (·.1):=by
      by_cases e:r∈gg.map (·.1)
      · exact e
      · have := ((getO_app gg [] r).2 e).2
        rw [U.1] at this; cases this
    rw [(getO_app gg _ r).1 hk]; exact U.1
  · intro p hp
    have:p∈gg∨p∈delO h r:=by
      rw [appH_eq] at hp
      exact List.mem_append.1 hp
    rcases this with h1 | h1
    · obtain ⟨y,e⟩:=hgg p h1; exact .inl ⟨y,e⟩
    · exact .inr (mem_delO h1).1
  · intro q hq
    have hk:q ∉ gg.map (·.1):=by
      intro e
      obtain ⟨x,hx,e2⟩:=List.mem_map.1 e
      obtain ⟨y,rfl⟩:=hgg x hx
      exact hq e2.symm
    rw [((getO_app gg _ q).2 hk).1,getO_delO,if_neg hq]
  · clear hcall U
    rw [appH_eq]
    induction gg with
    | nil=>exact delO_twice
    | cons x t ih =>
      obtain ⟨y,rfl⟩:=hgg x (by simp)
      rw [List.cons_append,delO_hd]
      exact ih (fun z hz=>hgg z (by simp [hz]))
def zeroT:Tm := .mk 0 0 false [] (Sl.app []) true false [] []
abbrev Does:=Tm→Int→Int→Option (Tm×Int)
mutual
def runM (g:Does):Tm→Int→Int→Tm×Int
  | .mk f n hd nm ls nl fl ks sp,d,L=>if L - 1 < 0 then (zeroT,L - 1) else
    match g (.mk f n hd nm ls nl fl ks sp) d (L - 1) with
    | some x=>x
    | none => (bareT (.mk f n hd nm ls nl fl ks sp) (runMs g f 0 ks d (L - 1)).1,(runMs g f 0 ks d (L - 1)).2)
def runMs (g:Does) (f:Int) (i:Nat):List Tm→Int→Int→List Tm×Int
  | [],_,L => ([],L)
  | k::ks,d,L => ((runM g k (undr f i d) L).1 :: (runMs g f (i+1) ks d (runM g k (undr f i d) L).2).1,(runMs g f (i+1) ks d (runM g k (undr f i d) L).2).2)
end
theorem runM_eq (g:Does) (t:Tm) (d L:Int):runM g t d L=if L - 1 < 0 then (zeroT,L - 1) else
    match g t d (L - 1) with
    | some x=>x
    | none => (bareT t (runMs g t.form 0 t.kids.el d (L - 1)).1,(runMs g t.form 0 t.kids.el d (L - 1)).2):=by
  cases t; rw [runM]; rfl
theorem runMs_nil (g:Does) (f:Int) (i:Nat) (d L:Int):runMs g f i [] d L = ([],L):=by rw [runMs]
theorem runMs_cons (g:Does) (f:Int) (i:Nat) (k:Tm) (ks:List Tm) (d L:Int):runMs g f i (k::ks) d L = ((runM g k (undr f i d) L).1 :: (runMs g f (i+1) ks d (runM g k (undr f i d) L).2).1,(runMs g f (i+1) ks d (runM g k (undr f i d) L).2).2):=by rw [runMs]
theorem runMs_snoc (g:Does) (f:Int) (k:Tm) (d:Int):∀ (ks:List Tm) (i:Nat) (L:Int),runMs g f i (ks++[k]) d L = ((runMs g f i ks d L).1++[(runM g k (undr f (i+ks.length) d) (runMs g f i ks d L).2).1],(runM g k (undr f (i+ks.length) d) (runMs g f i ks d L).2).2)
  | [],i,L=>by rw [List.nil_append,runMs_cons,runMs_nil,runMs_nil]; rfl
  | a::t,i,L=>by
    rw [List.cons_append,runMs_cons,runMs_cons,runMs_snoc g f k d t,show i+1+t.length=i + (a::t).length by rw [List.length_cons]; omega]
    rfl
theorem runMs_len (g:Does) (f:Int) (d:Int):∀ (ks:List Tm) (i:Nat) (L:Int),(runMs g f i ks d L).1.length=ks.length
  | [],i,L=>by rw [runMs_nil]
  | a::t,i,L=>by rw [runMs_cons,List.length_cons,List.length_cons,runMs_len g f d t]
def Steady (g:Does) (M:Int):Prop:=0≤M∧∀ t d L x,g t d L=some x→L - M≤x.2∧x.2≤L
theorem runM_low {g:Does} {M:Int} (hS:Steady g M):∀ (t:Tm) (d L:Int),L - sizeT t.abs * (M+1) ≤ (runM g t d L).2 ∧ (runM g t d L).2≤L:=by
  have hM:=hS.1
  refine Tm.ind ?_
  intro t ih d L
  have hp:=sizeT_pos t.abs
  have hs:=size_abs t
  have hlin:∀ a b:Nat,a≤b → (a:Int) * (M+1)≤b * (M+1):=fun a b hab=>Int.mul_le_mul_of_nonneg_right (by omega) (by omega)
  have h1:=hlin 1 (sizeT t.abs) hp
  rw [runM_eq]
  by_cases h0:L - 1 < 0
  · rw [if_pos h0]
    show L - _≤L - 1∧L - 1≤L
    omega
  · rw [if_neg h0]
    cases e:g t d (L - 1) with
    | some x =>
      have:=hS.2 t d (L - 1) x e
      show L - _≤x.2∧x.2≤L
      omega
    | none =>
      have key:∀ (ks:List Tm),(∀ k,k∈ks→k∈t.kids.el)→∀ (i:Nat) (L:Int),L - sizeTs (ks.map Tm.abs) * (M+1) ≤ (runMs g t.form i ks d L).2 ∧ (runMs g t.form i ks d L).2≤L:=by
        intro ks
        induction ks with
        | nil=>intro _ i L; rw [runMs_nil,List.map_nil,sizeTs_nil]; simp
        | cons k ks ihk =>
          intro hk i L
          rw [runMs_cons,List.map_cons,sizeTs_cons]
          have a1:=ih k (hk k (by simp)) (undr t.form i d) L
          have a2:=ihk (fun x hx=>hk x (by simp [hx])) (i+1) (runM g k (undr t.form i d) L).2
          have e : ((sizeT k.abs+sizeTs (ks.map Tm.abs):Nat):Int) * (M+1)=sizeT k.abs * (M+1)+sizeTs (ks.map Tm.abs) * (M+1):=by rw [Int.natCast_add,Int.add_mul]
          rw [e]
          show L - _ ≤ (runMs g t.form (i+1) ks d _).2∧_
          omega
      have:=key t.kids.el (fun _ h=>h) 0 (L - 1)
      have e : ((sizeT t.abs:Nat):Int) * (M+1) = (M+1)+sizeTs (t.kids.el.map Tm.abs) * (M+1):=by rw [hs,Int.natCast_add,Int.add_mul]; simp
      rw [e]
      show L - _ ≤ (runMs g t.form 0 t.kids.el d (L - 1)).2 ∧ (runMs g t.form 0 t.kids.el d (L - 1)).2≤L
      omega
theorem runMs_low {g:Does} {M:Int} (hS:Steady g M) (f d:Int):∀ (ks:List Tm) (i:Nat) (L:Int),L - sizeTs (ks.map Tm.abs) * (M+1) ≤ (runMs g f i ks d L).2 ∧ (runMs g f i ks d L).2≤L
  | [],i,L=>by rw [runMs_nil,List.map_nil,sizeTs_nil]; simp
  | k::ks,i,L=>by
    rw [runMs_cons,List.map_cons,sizeTs_cons]
    have a1:=runM_low hS k (undr f i d) L
    have a2:=runMs_low hS f d ks (i+1) (runM g k (undr f i d) L).2
    have e : ((sizeT k.abs+sizeTs (ks.map Tm.abs):Nat):Int) * (M+1)=sizeT k.abs * (M+1)+sizeTs (ks.map Tm.abs) * (M+1):=by rw [Int.natCast_add,Int.add_mul]
    rw [e]
    show L - _ ≤ (runMs g f (i+1) ks d _).2 ∧ (runMs g f (i+1) ks d _).2≤L
    omega
theorem runMs_take (g:Does) (f d L:Int) {ks:List Tm} {i:Nat} (hi:i < ks.length):runMs g f 0 (ks.take (i+1)) d L = ((runMs g f 0 (ks.take i) d L).1++[(runM g ks[i] (undr f i d) (runMs g f 0 (ks.take i) d L).2).1],(runM g ks[i] (undr f i d) (runMs g f 0 (ks.take i) d L).2).2):=by
  rw [List.take_succ_eq_append_getElem hi,runMs_snoc,List.length_take,Nat.zero_add,Nat.min_eq_left (Nat.le_of_lt hi)]
theorem undr_le (f:Int) (i:Nat) (d:Int):undr f i d≤d+1:=by unfold undr; split <;> omega
end Go.Proofs.Ytpbpmpabndgeeaa
