/- The program's map over a term, kept as it lies, where its function tells variables alone. No condition but sizes. -/
import Derived.Test.YtdijijblccmfbaaVB
import Derived.Test.YtdijijblccmfbaaNTMD
set_option linter.unusedSimpArgs false
set_option linter.unusedVariables false
namespace Go.Proofs.Ytdijijblccmfbaa
open Go
open Nat (reduceAdd reduceLT reduceLeDiff reduceEqDiff reduceMul)

set_option maxHeartbeats 4000000 in
theorem pLevelsK (n:Nat) (h:Hps) (hg:Gd n h) (ls:Sl SLev) (hl:ls.el.length≤1000000000) (hs:∀ x,x∈ls.el→x.vs.el.length≤1000000000):∃ d n2 h' rs,callFn (LX (cFk kL Try.prog)) n h [slD 2 encL ls] (cFk kL Try.prog 134) = .ok d n2 h'∧Lq h' (ls.el.map cloneL) d rs∧Kq n h n2 h' rs∧n2≤n+1:=by
  have hgn:=hg n (Nat.le_refl _)
  rw [f134_eq]; unfold c134; rw [callFn_eqK (by rfl)]
  simp (disch:=first|assumption|omega|(simp (disch:=first|assumption|omega) only [sB,reduceAdd,reduceLT,reduceLeDiff,reduceEqDiff,reduceMul,↓reduceIte];done)|fail) only [sA,↓reduceIte,reduceLT,reduceEqDiff,reduceAdd,reduceLeDiff]
  generalize hr:LX (cFk kL Try.prog) (.loop l134_0) _ _ _=r
  obtain ⟨x,e2,n2,h2,rfl,rfl,H2,d,B,q3⟩:=loop_up hr ls.el.length
    (fun i e n' h'=>Hp n h n' h' ∧ (∃ d,Bld 2 encL n ((ls.el.take i).map cloneL) h' d∧get (po 3) e=d)∧get (po 6) e=slD 2 encL ls∧get (po 7) e = .int .i64 (ls.el.length:Nat)∧get (po 8) e = .int .i64 (i:Nat))
    (fun x e n' h'=>x = .exit 0∧Hp n h n' h'∧∃ d,Bld 2 encL n (ls.el.map cloneL) h' d∧get (po 3) e=d)
    (by
      rintro e n' h' ⟨H,⟨d,B,g3⟩,g6,g7,g8⟩
      rw [List.take_length] at B
      unfold l134_0
      simp (disch:=first|assumption|omega|(simp (disch:=first|assumption|omega) only [sB,reduceAdd,reduceLT,reduceLeDiff,reduceEqDiff,reduceMul,↓reduceIte];done)|fail) only [sA,↓reduceIte,reduceLT,reduceEqDiff,reduceAdd,reduceLeDiff,g3,g6,g7,g8]
      exact ⟨_,_,_,_,rfl,by simp,rfl,H.mono (by omega),d,B,by simp +decide only [sG,g3]⟩)
    (by
      rintro i e n' h' hi ⟨H,⟨d,B,g3⟩,g6,g7,g8⟩
      have hsi:=hs ls.el[i] (List.getElem_mem hi)
      have c1:∀ m,callFn (LX (cFk kL Try.prog)) m [] [slD 2 encV ls.el[i].vs] (cFk kL Try.prog 142) = .ok (slD 2 encV (cloneV ls.el[i].vs)) m []:=fun m=>pClone m [] (fun _ _=>good_nil) _ (by omega)
      have H1:Hp n h (n'+4) ((n'+3,.row 2 [(D.agg [.int .i64 (ls.el[i].n),slD 2 encV (ls.el[i].vs)])])::h'):=H.box (r:=n'+3) (m:=n'+4) (by omega) (by omega) (flatL _)
      have B1:Bld 2 encL n ((ls.el.take i).map cloneL) ((n'+3,.row 2 [(D.agg [.int .i64 (ls.el[i].n),slD 2 encV (ls.el[i].vs)])])::h') d:=B.cons (H.good n' (Nat.le_refl _)) (by omega)
      have hbo:=B.okD
      obtain ⟨D',H',A⟩:=app_bldx (b:=32) B1 H1 (Nat.le_refl _) H1.le lowL [cloneL ls.el[i]] (by simp; omega)
      have A1:=fun m hm => (A m hm).1
      simp only [encL,List.map_cons,List.map_nil,cloneL] at A1
      have hky:∀ m,n'+4≤m→keysFrom m ((n'+3,.row 2 [(D.agg [.int .i64 (ls.el[i].n),slD 2 encV (ls.el[i].vs)])])::h')=[]:=fun m hm=>keys_low (H1.good m hm)
      unfold l134_0
      simp (disch:=first|assumption|omega|(simp (disch:=first|assumption|omega) only [sB,reduceAdd,reduceLT,reduceLeDiff,reduceEqDiff,reduceMul,↓reduceIte,app_el,hi];done)|fail) only [sA,↓reduceIte,reduceLT,reduceEqDiff,reduceAdd,reduceLeDiff,g3,g6,g7,g8,encL,c1,hbo,A1,hky,app_el,hi]
      exact ⟨_,_,_,_,rfl,.inl ⟨rfl,((A _ (by omega)).2.2.1).mono (by omega),⟨_,by rw [← List.take_append_getElem hi,List.map_append]; exact (A _ (by omega)).2.1,by simp +decide only [sG]⟩,by simp +decide only [sG,g6],by simp +decide only [sG,g7],by simp +decide only [sG]⟩⟩)
    ⟨(Hp.start hg).mono (by omega),⟨.nils,.inl ⟨by simp,rfl⟩,by simp +decide only [sG]⟩,by simp +decide only [sG],by simp +decide only [sG],by simp (disch:=first|assumption|omega|(simp (disch:=first|assumption|omega) only [sB,reduceAdd,reduceLT,reduceLeDiff,reduceEqDiff,reduceMul,↓reduceIte];done)|fail) only [sA,↓reduceIte,reduceLT,reduceEqDiff,reduceAdd,reduceLeDiff]⟩
  obtain ⟨rs,L,hrs⟩:∃ rs,Lq h2 (ls.el.map cloneL) d rs∧∀ r,r∈rs→n≤r:=by
    rcases B with ⟨h1,h2⟩ | ⟨r,h1,h3,h4,h5⟩
    · exact ⟨[],.inl ⟨h1,h2,rfl⟩,fun r hr => (by cases hr)⟩
    · exact ⟨[r],.inr ⟨r,h1,h4,rfl,h5⟩,fun q hq=>by rw [List.mem_singleton.1 hq]; exact h3⟩
  obtain ⟨d',h',rs',e,L',K⟩:=keep_lv (H2.mono (show n2≤n2+2 by omega)) hg L hrs
  refine ⟨d',n+rs.length,h',rs',?_,L',K,by have:=L.len; omega⟩
  simp (disch:=first|assumption|omega|(simp (disch:=first|assumption|omega) only [sB,reduceAdd,reduceLT,reduceLeDiff,reduceEqDiff,reduceMul,↓reduceIte];done)|fail) only [sA,↓reduceIte,reduceLT,reduceEqDiff,reduceAdd,reduceLeDiff,q3,e]


theorem drop_drop {n m:Nat} (hn:n≤m) (h:Hps):dropFrom n (dropFrom m h)=dropFrom n h:=by
  induction h with
  | nil=>rfl
  | cons a t ih =>
    obtain ⟨q,o⟩:=a
    by_cases e:q < m
    · rw [drop_old e]
      by_cases e2:q < n
      · rw [drop_old e2,drop_old e2,ih]
      · rw [drop_new (by omega),drop_new (by omega),ih]
    · rw [drop_new (by omega),drop_new (by omega),ih]
theorem Hp.comp {n m n2:Nat} {h G g:Hps} (A:Hp n h m G) (B:Hp m G n2 g):Hp n h n2 g:=by
  have h1:=A.le
  refine ⟨Nat.le_trans A.le B.le,B.good,by rw [← drop_drop h1,B.drop,A.drop],?_⟩
  rw [leak_iff]
  intro p hp hq
  have:p∈G:=by rw [← B.drop]; exact mem_drop.2 ⟨hp,by omega⟩
  exact leak_iff.1 A.leak p this hq
theorem Hp.keys {m n2:Nat} {g:Hps} (B:Hp m [] n2 g):∀ p,p∈g→m≤p.1:=fun p hp=>by
  by_cases e:p.1 < m
  · have:p∈dropFrom m g:=mem_drop.2 ⟨hp,e⟩
    rw [B.drop] at this; cases this
  · omega
theorem drop_app {n:Nat} {g G:Hps} (hk:∀ p,p∈g→n≤p.1):dropFrom n (g++G)=dropFrom n G:=by
  induction g with
  | nil=>rfl
  | cons a t ih =>
    obtain ⟨q,o⟩:=a
    rw [List.cons_append,drop_new (hk (q,o) (by simp)),ih (fun p hp=>hk p (by simp [hp]))]
theorem getO_appl {g G:Hps} {q:Nat} (hq:getO g q ≠ .none):getO (appH g G) q=getO g q:=by
  by_cases e:q∈g.map (·.1)
  · exact (getO_app g G q).1 e
  · exact absurd ((getO_app g G q).2 e).2 hq
theorem getO_appr {g G:Hps} {q:Nat} (hq:∀ p,p∈g→p.1≠q):getO (appH g G) q=getO G q := ((getO_app g G q).2 (fun e=>by
  obtain ⟨x,hx,e2⟩:=List.mem_map.1 e
  exact hq x hx e2)).1
theorem Hp.appH {n m m' n2:Nat} {h G g:Hps} (A:Hp n h m G) (B:Hp m' [] n2 g) (hm:m≤m'):Hp n h n2 (appH g G):=by
  have h1:=A.le
  have h2:=B.le
  have hk:=B.keys
  refine ⟨by omega,fun k hk' p hp=>?_,?_,?_⟩
  · rw [appH_eq] at hp
    rcases List.mem_append.1 hp with hp | hp
    · exact B.good k hk' p hp
    · exact A.good k (by omega) p hp
  · rw [appH_eq,drop_app (fun p hp=>by have:=hk p hp; omega),A.drop]
  · rw [leak_iff,appH_eq]
    intro p hp hq
    rcases List.mem_append.1 hp with hp | hp
    · have:=hk p hp; omega
    · exact leak_iff.1 A.leak p hp hq
theorem getO_ne {h:Hps} {r q:Nat} {x:Ob} (hn:q≠r):getO (setO h r x) q=getO h q:=by
  induction h with
  | nil=>rfl
  | cons a t ih =>
    obtain ⟨p,o⟩:=a
    by_cases e:p=r
    · subst e
      rw [setO_hd,getO_tl (fun e=>hn e.symm),getO_tl (fun e=>hn e.symm)]
    · rw [setO_tl e]
      by_cases e2:p=q
      · subst e2; rw [getO_hd,getO_hd]
      · rw [getO_tl e2,getO_tl e2,ih]
theorem rowD.one {rs:List Nat} {d:D} (H:rowD rs d):Ytdijijblccmfbaa.one d=true:=by
  rcases H with rfl | ⟨k,r,len,hr,rfl⟩ <;> rfl
theorem low6 {m:Nat} {f a:Int} {b:Bool} {c:List Nat} {x y:D} {rs rs':List Nat} (hx:rowD rs x) (hy:rowD rs' y) (h1:∀ r,r∈rs→r < m) (h2:∀ r,r∈rs'→r < m):low m (.agg [.int .i64 f,.int .i64 a,.bool b,.str c,x,y]):=low_agg (fun z hz=>by
  rcases List.mem_cons.1 hz with rfl | hz
  · rfl
  rcases List.mem_cons.1 hz with rfl | hz
  · rfl
  rcases List.mem_cons.1 hz with rfl | hz
  · rfl
  rcases List.mem_cons.1 hz with rfl | hz
  · rfl
  rcases List.mem_cons.1 hz with rfl | hz
  · exact hx.low h1
  · rw [List.mem_singleton.1 hz]; exact hy.low h2)
theorem keys_disj {m q:Nat} {g:Hps} (hq:q < m):disj (keysFrom m g) [q]=true := (disj_eq _ _).2 (fun x hx hx2=>by
  have := (keysFrom_mem.1 hx).2
  have:=List.mem_singleton.1 hx2
  omega)
theorem Tq_leaf {G:Hps} {f n:Int} {hd:Bool} {nm:List Nat} {l:List SLev} {lv:D} {rl:List Nat} (HL:Lq G l lv rl):Tq G (.mk f n hd nm (Sl.app l) true false [] []) (.agg [.int .i64 f,.int .i64 n,.bool hd,.str nm,lv,.nils]) rl:=by
  rw [Tq]
  exact ⟨⟨rfl,rfl,rfl,rfl,rfl,rfl⟩,lv,.nils,rl,[],rfl,(List.append_nil _).symm,HL,.inl ⟨rfl,rfl,rfl⟩⟩
theorem high_leaf {f n:Int} {hd:Bool} {nm:List Nat} {l:Sl SLev}:highT (Tm.mk f n hd nm l true false [] []).abs=1:=by
  rw [high_abs]
  show 1+highTs (List.map Tm.abs [])=1
  rw [List.map_nil,highTs_nil]
theorem keep_leaf {n m:Nat} {h G:Hps} {f a:Int} {hd:Bool} {nm:List Nat} {l:List SLev} {lv:D} {rl:List Nat} (hg:Gd n h) (H:Hp n h m G) (HL:Lq G l lv rl) (hn:∀ r,r∈rl→n≤r):∃ d n2 h' rs,keepD n m G (.agg [.int .i64 f,.int .i64 a,.bool hd,.str nm,lv,.nils]) = .ok d n2 h'∧Tq h' (.mk f a hd nm (Sl.app l) true false [] []) d rs∧Kq n h n2 h' rs∧n2≤n+1:=by
  have hnd:rl.Nodup:=by rcases HL with ⟨_,_,rfl⟩ | ⟨r,_,_,rfl,_⟩ <;> simp
  obtain ⟨d',h',rs',e,T',K⟩:=keep_tm H hg (Tq_leaf (f:=f) (n:=a) (hd:=hd) (nm:=nm) HL) (by rw [high_leaf]; omega) hnd hn
  exact ⟨d',_,h',rs',e,T',K,by have:=HL.len; omega⟩
theorem Lq_nil {G:Hps}:Lq G [] .nils [] := .inl ⟨rfl,rfl,rfl⟩
theorem pure_lv {m k n1:Nat} {G g:Hps} {s:Sl SLev} {d:D} {ls:List SLev} {rs:List Nat} (L:Lq g ls d rs) (K:Kq (m+1) [] n1 g rs):pureC [] m G (.fn k [] []) [slD 2 encL s] (.ok d n1 g) = .ok d n1 (appH g G):=by
  have hP:∀ r,m+1≤r→ofR [] (m+1) r=true:=fun r hr=>by
    show Bool.or (Nat.ble (m+1) r) false=true
    rw [ble_iff,decide_eq_true hr]; rfl
  have f5:inH (ofR [] (m+1)) g=true:=inH_all (fun x hx=>⟨hP _ (K.hp.keys x hx),K.own x hx (K.hp.keys x hx) _ hP⟩)
  have f4:inD (ofR [] (m+1)) 20 d=true:=L.row.inD (fun r hr=>hP r (K.ge r hr).1)
  have f3:allL (inD (fun r'=>memN r' []) 20) [slD 2 encL s]=true:=by rw [allL_eq,List.all_cons,List.all_nil,in_slD]; rfl
  show ifR (Bool.and true (Bool.and true (Bool.and (allL (inD (fun r'=>memN r' []) 20) [slD 2 encL s]) (Bool.and true (Bool.and (inD (ofR [] (m+1)) 20 d) (inH (ofR [] (m+1)) g)))))) (.ok d n1 (appH g G))=_
  rw [f3,f4,f5]; rfl
set_option maxHeartbeats 4000000 in
theorem pBareK (n:Nat) (h:Hps) (hg:Gd n h) (t:Tm) (ht:thin t):∃ d n2 h' rs,callFn (LX (cFk kL Try.prog)) n h [(D.agg [.int .i64 (t).form,.int .i64 (t).n,.bool (t).hid,.str (t).name,slD 2 encL (t).levels,slD 6 encT (t).kids])] (cFk kL Try.prog 118) = .ok d n2 h'∧Tq h' (bareT t []) d rs∧Kq n h n2 h' rs∧n2≤n+1:=by
  have hgn:=hg n (Nat.le_refl _)
  have H3:∀ X,flat X=true→Hp n h (n+6) ((n+5,.row 6 [X]) :: (n+1,(Ob.row 6 [.agg [.int .i64 0,.int .i64 0,.bool false,.str [],.nils,.nils]])) :: (n,(Ob.row 6 [.agg [.int .i64 (t).form,.int .i64 (t).n,.bool (t).hid,.str (t).name,slD 2 encL (t).levels,slD 6 encT (t).kids]]))::h):=fun X hX => (((Hp.start hg).box (r:=n) (m:=n+1) (Nat.le_refl _) (by omega) (flatTA t)).box (r:=n+1) (m:=n+2) (k:=6) (d := (D.agg [.int .i64 0,.int .i64 0,.bool false,.str [],.nils,.nils])) (by omega) (by omega) rfl).box (r:=n+5) (m:=n+6) (by omega) (by omega) hX
  have H4:∀ X,flat X=true→Hp n h (n+6) ((n+5,.row 6 [X]) :: (n+1,.row 6 [X]) :: (n,(Ob.row 6 [.agg [.int .i64 (t).form,.int .i64 (t).n,.bool (t).hid,.str (t).name,slD 2 encL (t).levels,slD 6 encT (t).kids]]))::h):=fun X hX => (((Hp.start hg).box (r:=n) (m:=n+1) (Nat.le_refl _) (by omega) (flatTA t)).box (r:=n+1) (m:=n+2) (by omega) (by omega) hX).box (r:=n+5) (m:=n+6) (by omega) (by omega) hX
  unfold thin at ht
  have hfin:∀ (g2:Hps) (n2 m:Nat) (dl:D) (rl:List Nat) (f a:Int) (hd:Bool) (nm:List Nat),Hp n h n2 g2→Lq g2 (t.levels.el.map cloneL) dl rl → (∀ r,r∈rl→n+6≤r∧r < n2)→n2≤m→∃ d n2 h' rs,keepD n m (setO (setO g2 (n+5) (.row 6 [.agg [.int .i64 f,.int .i64 a,.bool hd,.str nm,dl,.nils]])) (n+1) (.row 6 [.agg [.int .i64 f,.int .i64 a,.bool hd,.str nm,dl,.nils]])) (.agg [.int .i64 f,.int .i64 a,.bool hd,.str nm,dl,.nils]) = .ok d n2 h'∧Tq h' (.mk f a hd nm (Sl.app (t.levels.el.map cloneL)) true false [] []) d rs∧Kq n h n2 h' rs∧n2≤n+1:=by
    intro g2 n2 m dl rl f a hd nm H L hr hm
    have hlow:∀ k,n2≤k→lowO k (.row 6 [.agg [.int .i64 f,.int .i64 a,.bool hd,.str nm,dl,.nils]]):=fun k hk=>lowO_one (low6 L.row (.inl rfl:rowD [] .nils) (fun r h1=>by have:=hr r h1; omega) (fun r h1=>by cases h1))
    exact keep_leaf hg (((H.set (r:=n+5) (by omega) hlow).set (r:=n+1) (by omega) hlow).mono hm) (L.congr (fun r h1=>by have:=hr r h1; rw [getO_ne (by omega),getO_ne (by omega)])) (fun r h1=>by have:=hr r h1; omega)
  generalize hf:t.form=f at *
  by_cases h2:f=2
  · subst h2
    have eb:bareT t [] = .mk 2 0 false [] (Sl.app (t.levels.el.map cloneL)) true false [] []:=by unfold bareT; rw [hf]; rfl
    rw [eb]
    have HG:=H3 (.agg [.int .i64 2,.int .i64 0,.bool false,.str [],.nils,.nils]) rfl
    obtain ⟨dl,n2,g2,rl,el,Ll,Kl,hn2⟩:=pLevelsK (n+24) _ (fun k hk=>HG.good k (by omega)) t.levels (ht (.inl rfl)).1 (ht (.inl rfl)).2
    have w5:getO g2 (n+5) = .row 6 [.agg [.int .i64 2,.int .i64 0,.bool false,.str [],.nils,.nils]]:=by rw [Kl.hp.get (by omega),getO_hd]
    have w1:getO g2 (n+1) = (Ob.row 6 [.agg [.int .i64 0,.int .i64 0,.bool false,.str [],.nils,.nils]]):=by rw [Kl.hp.get (by omega),getO_tl (by omega),getO_hd]
    have w6:∀ X,getO (setO g2 (n+5) X) (n+5)=X:=fun X=>getO_setO_same (by rw [w5]; simp)
    have w7:∀ X,getO (setO g2 (n+5) X) (n+1) = (Ob.row 6 [.agg [.int .i64 0,.int .i64 0,.bool false,.str [],.nils,.nils]]):=fun X=>by rw [getO_ne (by omega)]; exact w1
    have w8:∀ X Y,getO (setO (setO g2 (n+5) X) (n+1) Y) (n+1)=Y:=fun X Y=>getO_setO_same (by rw [w7]; simp)
    have hone:=Ll.row.one
    rw [f118_eq]; unfold c118; rw [callFn_eqK (by rfl)]
    simp (disch:=first|assumption|omega|(simp (disch:=first|assumption|omega) only [sB,reduceAdd,reduceLT,reduceLeDiff,reduceEqDiff,reduceMul,↓reduceIte];done)|fail) only [sA,↓reduceIte,reduceLT,reduceEqDiff,reduceAdd,reduceLeDiff,hf,el,w5,w6,w7,w8,hone]
    exact hfin g2 n2 _ dl rl 2 0 false [] ((HG.mono (by omega)).comp Kl.hp) Ll (fun r hr=>by have:=Kl.ge r hr; omega) (by omega)
  by_cases h10:f=10
  · subst h10
    have eb:bareT t [] = .mk 10 0 false t.name (Sl.app (t.levels.el.map cloneL)) true false [] []:=by unfold bareT; rw [hf]; rfl
    rw [eb]
    have HG:=H3 (.agg [.int .i64 10,.int .i64 0,.bool false,.str [],.nils,.nils]) rfl
    obtain ⟨dl,n2,g2,rl,el,Ll,Kl,hn2⟩:=pLevelsK (n+4398046511128) [] (fun _ _=>good_nil) t.levels (ht (.inr rfl)).1 (ht (.inr rfl)).2
    have ep:=fun G=>pure_lv (m:=n+4398046511127) (k:=134) (G:=G) (s:=t.levels) Ll Kl
    have hgk:∀ p,p∈g2→n+4398046511128≤p.1:=Kl.hp.keys
    have HG2:=HG.appH Kl.hp (by omega)
    generalize hgg:appH g2 ((n+5,.row 6 [.agg [.int .i64 10,.int .i64 0,.bool false,.str [],.nils,.nils]]) :: (n+1,(Ob.row 6 [.agg [.int .i64 0,.int .i64 0,.bool false,.str [],.nils,.nils]])) :: (n,.row 6 [.agg [.int .i64 10,.int .i64 t.n,.bool t.hid,.str t.name,slD 2 encL t.levels,slD 6 encT t.kids]])::h)=gg at HG2
    have w5:getO gg (n+5) = .row 6 [.agg [.int .i64 10,.int .i64 0,.bool false,.str [],.nils,.nils]]:=by rw [← hgg,getO_appr (fun p hp=>by have:=hgk p hp; omega),getO_hd]
    have w1:getO gg (n+1) = (Ob.row 6 [.agg [.int .i64 0,.int .i64 0,.bool false,.str [],.nils,.nils]]):=by rw [← hgg,getO_appr (fun p hp=>by have:=hgk p hp; omega),getO_tl (by omega),getO_hd]
    have w6:∀ X,getO (setO gg (n+5) X) (n+5)=X:=fun X=>getO_setO_same (by rw [w5]; simp)
    have w7:∀ X,getO (setO gg (n+5) X) (n+1) = (Ob.row 6 [.agg [.int .i64 0,.int .i64 0,.bool false,.str [],.nils,.nils]]):=fun X=>by rw [getO_ne (by omega)]; exact w1
    have w8:∀ X Y,getO (setO (setO gg (n+5) X) (n+1) Y) (n+1)=Y:=fun X Y=>getO_setO_same (by rw [w7]; simp)
    have w9:∀ X Y,setO (setO gg (n+5) X) (n+5) Y=setO gg (n+5) Y:=fun X Y=>setO_setO
    have hone:=Ll.row.one
    have Lg:Lq gg (t.levels.el.map cloneL) dl rl:=Ll.congr (fun r hr=>by
      rw [← hgg]
      refine getO_appl ?_
      rcases Ll.rows r hr with ⟨ls,e⟩ | ⟨ds,e,_⟩ <;> rw [e] <;> simp)
    rw [f118_eq]; unfold c118; rw [callFn_eqK (by rfl)]
    simp (disch:=first|assumption|omega|(simp (disch:=first|assumption|omega) only [sB,reduceAdd,reduceLT,reduceLeDiff,reduceEqDiff,reduceMul,↓reduceIte];done)|fail) only [sA,↓reduceIte,reduceLT,reduceEqDiff,reduceAdd,reduceLeDiff,hf,el,ep,hgg,w5,w6,w7,w8,w9,hone,keys_disj]
    exact hfin gg n2 _ dl rl 10 0 false t.name HG2 Lg (fun r hr=>by have:=Kl.ge r hr; omega) (by omega)
  clear ht hfin
  by_cases h1:f=1
  · subst h1
    have eb:bareT t [] = .mk 1 t.n false [] (Sl.app []) true false [] []:=by unfold bareT; rw [hf]; rfl
    rw [eb]; rw [f118_eq]; unfold c118; rw [callFn_eqK (by rfl)]; simp (disch:=first|assumption|omega|(simp (disch:=first|assumption|omega) only [sB,reduceAdd,reduceLT,reduceLeDiff,reduceEqDiff,reduceMul,↓reduceIte];done)|fail) only [sA,↓reduceIte,reduceLT,reduceEqDiff,reduceAdd,reduceLeDiff,hf]; exact keep_leaf hg ((H4 _ rfl).mono (by omega)) Lq_nil (fun r hr=>by cases hr)
  by_cases h11:f=11
  · subst h11
    have eb:bareT t [] = .mk 11 t.n false [] (Sl.app []) true false [] []:=by unfold bareT; rw [hf]; rfl
    rw [eb]; rw [f118_eq]; unfold c118; rw [callFn_eqK (by rfl)]; simp (disch:=first|assumption|omega|(simp (disch:=first|assumption|omega) only [sB,reduceAdd,reduceLT,reduceLeDiff,reduceEqDiff,reduceMul,↓reduceIte];done)|fail) only [sA,↓reduceIte,reduceLT,reduceEqDiff,reduceAdd,reduceLeDiff,hf]; exact keep_leaf hg ((H4 _ rfl).mono (by omega)) Lq_nil (fun r hr=>by cases hr)
  by_cases h3:f=3
  · subst h3
    have eb:bareT t [] = .mk 3 0 t.hid [] (Sl.app []) true false [] []:=by unfold bareT; rw [hf]; rfl
    rw [eb]; rw [f118_eq]; unfold c118; rw [callFn_eqK (by rfl)]; simp (disch:=first|assumption|omega|(simp (disch:=first|assumption|omega) only [sB,reduceAdd,reduceLT,reduceLeDiff,reduceEqDiff,reduceMul,↓reduceIte];done)|fail) only [sA,↓reduceIte,reduceLT,reduceEqDiff,reduceAdd,reduceLeDiff,hf]; exact keep_leaf hg ((H4 _ rfl).mono (by omega)) Lq_nil (fun r hr=>by cases hr)
  by_cases h4:f=4
  · subst h4
    have eb:bareT t [] = .mk 4 0 t.hid [] (Sl.app []) true false [] []:=by unfold bareT; rw [hf]; rfl
    rw [eb]; rw [f118_eq]; unfold c118; rw [callFn_eqK (by rfl)]; simp (disch:=first|assumption|omega|(simp (disch:=first|assumption|omega) only [sB,reduceAdd,reduceLT,reduceLeDiff,reduceEqDiff,reduceMul,↓reduceIte];done)|fail) only [sA,↓reduceIte,reduceLT,reduceEqDiff,reduceAdd,reduceLeDiff,hf]; exact keep_leaf hg ((H4 _ rfl).mono (by omega)) Lq_nil (fun r hr=>by cases hr)
  by_cases h5:f=5
  · subst h5
    have eb:bareT t [] = .mk 5 0 t.hid [] (Sl.app []) true false [] []:=by unfold bareT; rw [hf]; rfl
    rw [eb]; rw [f118_eq]; unfold c118; rw [callFn_eqK (by rfl)]; simp (disch:=first|assumption|omega|(simp (disch:=first|assumption|omega) only [sB,reduceAdd,reduceLT,reduceLeDiff,reduceEqDiff,reduceMul,↓reduceIte];done)|fail) only [sA,↓reduceIte,reduceLT,reduceEqDiff,reduceAdd,reduceLeDiff,hf]; exact keep_leaf hg ((H4 _ rfl).mono (by omega)) Lq_nil (fun r hr=>by cases hr)
  have eb:bareT t [] = .mk f 0 false [] (Sl.app []) true false [] []:=by unfold bareT; rw [hf,if_neg (by omega),if_neg (by omega),if_neg (by omega),if_neg (by omega)]
  rw [eb]
  rw [f118_eq]; unfold c118; rw [callFn_eqK (by rfl)]
  simp (disch:=first|assumption|omega|(simp (disch:=first|assumption|omega) only [sB,reduceAdd,reduceLT,reduceLeDiff,reduceEqDiff,reduceMul,↓reduceIte];done)|fail) only [sA,↓reduceIte,reduceLT,reduceEqDiff,reduceAdd,reduceLeDiff,hf,h1,h2,h3,h4,h5,h10,h11]
  exact keep_leaf hg ((H4 _ rfl).mono (by omega)) Lq_nil (fun r hr=>by cases hr)
end Go.Proofs.Ytdijijblccmfbaa
set_option linter.unusedSimpArgs false
set_option linter.unusedVariables false
namespace Go.Proofs.Ytdijijblccmfbaa
open Go
open Nat (reduceAdd reduceLT reduceLeDiff reduceEqDiff reduceMul)

def DoesK (c:D) (g:Does):Prop:=∀ t:Tm,slimT t.abs=true→∀ d L:Int,0≤d→d≤1000000→∀ (n:Nat) (h:Hps),Gd n h →
  (g t d L=none→callX (cFk kL Try.prog) (LX (cFk kL Try.prog)) n h c [(D.agg [.int .i64 (t).form,.int .i64 (t).n,.bool (t).hid,.str (t).name,slD 2 encL (t).levels,slD 6 encT (t).kids]),.int .i64 d] = .ok (.tup [(D.agg [.int .i64 0,.int .i64 0,.bool false,.str [],.nils,.nils]),.bool false]) n h)∧∀ x,g t d L=some x → (∃ v,x = (varT v,L))∧callX (cFk kL Try.prog) (LX (cFk kL Try.prog)) n h c [(D.agg [.int .i64 (t).form,.int .i64 (t).n,.bool (t).hid,.str (t).name,slD 2 encL (t).levels,slD 6 encT (t).kids]),.int .i64 d] = .ok (.tup [encT x.1,.bool true]) n h
theorem doesCK:DoesK (.fn 93 [] []) gC:=fun t _ d L _ _ n h hg=>⟨fun _=>by rw [callX_fn]; exact dC n h hg t d,fun x hx => (by cases hx)⟩
theorem doesLK {a b:Int} (ha:0≤a∧a≤10000000) (hb:0≤b∧b≤10000000):DoesK (.fn 94 [.agg [.int .i64 a,.int .i64 b]] []) (gL a b):=fun t ht d L hd1 hd2 n h hg=>by
  have e:=dL n h hg a b t d ha hb ⟨hd1,by omega⟩ (slim_tm ht).2.1
  rw [callX_fn]
  unfold gL
  by_cases hc:t.form=1∧a+d≤t.n
  · rw [if_pos hc] at e ⊢
    exact ⟨fun h => (by cases h),fun x hx=>by cases hx; exact ⟨⟨_,rfl⟩,e⟩⟩
  · rw [if_neg hc] at e ⊢
    exact ⟨fun _=>e,fun x hx=>by cases hx⟩
theorem run_high {g:Does} (hG:∀ t d L x,g t d L=some x→∃ v,x = (varT v,L)):∀ t:Tm,∀ d L,highT (runM g t d L).1.abs≤highT t.abs:=by
  refine Tm.ind ?_
  intro t ih d L
  have hp:=highT_pos t.abs
  rw [runM_eq]
  split
  · show highT zeroT.abs≤_
    rw [show highT zeroT.abs=1 from high_leaf]; exact hp
  · cases e:g t d (L - 1) with
    | some x =>
      obtain ⟨v,rfl⟩:=hG _ _ _ _ e
      show highT (varT v).abs≤_
      rw [show highT (varT v).abs=1 from high_leaf]; exact hp
    | none =>
      show highT (bareT t (runMs g t.form 0 t.kids.el d (L - 1)).1).abs≤_
      rw [high_abs,high_abs t]
      show 1+highTs ((runMs g t.form 0 t.kids.el d (L - 1)).1.map Tm.abs)≤_
      have key:∀ ks:List Tm,(∀ k,k∈ks→k∈t.kids.el)→∀ (i:Nat) (L:Int),highTs ((runMs g t.form i ks d L).1.map Tm.abs)≤highTs (ks.map Tm.abs):=by
        intro ks
        induction ks with
        | nil=>intro _ i L; rw [runMs_nil]; exact Nat.le_refl _
        | cons k ks ihk =>
          intro hk i L
          rw [runMs_cons,List.map_cons,List.map_cons,highTs_cons,highTs_cons]
          have a1:=ih k (hk k (by simp)) (undr t.form i d) L
          have a2:=ihk (fun x hx=>hk x (by simp [hx])) (i+1) (runM g k (undr t.form i d) L).2
          show max (highT (runM g k (undr t.form i d) L).1.abs) (highTs ((runMs g t.form (i+1) ks d (runM g k (undr t.form i d) L).2).1.map Tm.abs))≤_
          omega
      have:=key t.kids.el (fun _ h=>h) 0 (L - 1)
      omega
theorem sub_kept {call:CallF} {m r q n1:Nat} {h gg hb1:Hps} {t v:Tm} {d L L':Int} {c dd:D} {rs:List Nat} (hb:getO h r = .row 1 [.int .i64 L]) (hr:r≤m) (hc:rd 20 c=[]∨rd 20 c=[r]) (hci:inD (fun x=>memN x [r]) 20 c=true)
    (hcall:call (m+1) [(r,.row 1 [.int .i64 L])] (.fn q [] []) [(D.agg [.int .i64 (t).form,.int .i64 (t).n,.bool (t).hid,.str (t).name,slD 2 encL (t).levels,slD 6 encT (t).kids]),.int .i64 d,.ptr r 0 0,c] = .ok dd n1 gg) (T:Tq gg v dd rs) (U:Cnt r L' [(r,.row 1 [.int .i64 L])] hb1) (K:Kq (m+1) hb1 n1 gg rs) :
    ∃ g1,subC call (reachC h [(D.agg [.int .i64 (t).form,.int .i64 (t).n,.bool (t).hid,.str (t).name,slD 2 encL (t).levels,slD 6 encT (t).kids]),.int .i64 d,.ptr r 0 0,c] (.fn q [] [])) m h (.fn q [] []) [(D.agg [.int .i64 (t).form,.int .i64 (t).n,.bool (t).hid,.str (t).name,slD 2 encL (t).levels,slD 6 encT (t).kids]),.int .i64 d,.ptr r 0 0,c] = .ok dd n1 g1∧Tq g1 v dd rs∧getO g1 r = .row 1 [.int .i64 L'] ∧ (∀ q,q < m+1→q≠r→getO g1 q=getO h q) ∧
      ∀ n0 hb0,n0≤m+1→r < n0→Hp n0 hb0 (m+1) h→∃ hb',Hp n0 hb' n1 g1∧Cnt r L' hb0 hb':=by
  have hle:=K.hp.le
  have hlow:∀ x,x∈gg→x.1 < m+1→∃ y,x = (r,.row 1 [.int .i64 y]):=fun x hx hq=>by
    have:x∈hb1:=by rw [← K.hp.drop]; exact mem_drop.2 ⟨hx,hq⟩
    rcases U.2.1 x this with h | h
    · exact h
    · exact ⟨L,List.mem_singleton.1 h⟩
  have hP:∀ r',m+1≤r'→ofR [r] (m+1) r'=true:=fun r' hr=>by
    show Bool.or (Nat.ble (m+1) r') (memN r' [r])=true
    rw [ble_iff,decide_eq_true hr]; rfl
  have hgr:getO gg r = .row 1 [.int .i64 L']:=by rw [K.hp.get (by omega)]; exact U.1
  have hget1:getO (appH gg (delO h r)) r = .row 1 [.int .i64 L']:=by rw [getO_appl (by rw [hgr]; simp)]; exact hgr
  have hget2:∀ q,q < m+1→q≠r→getO (appH gg (delO h r)) q=getO h q:=fun q hq hn=>by
    rw [getO_appr (fun p hp e=>by
      obtain ⟨y,rfl⟩:=hlow p hp (by omega)
      exact hn e.symm),getO_delO,if_neg hn]
  refine ⟨appH gg (delO h r),?_,?_,hget1,hget2,?_⟩
  · rw [reach_cnt hb hc]
    show pureC [r] m h _ _ (call (m+1) [(r,getO h r)] _ _)=_
    rw [hb,hcall]
    have f1:allN (fun r'=>Nat.ble r' m) [r]=true:=by
      show Bool.and (Nat.ble r m) true=true
      rw [ble_iff,decide_eq_true hr]; rfl
    have f3:allL (inD (fun r'=>memN r' [r]) 20) [(D.agg [.int .i64 (t).form,.int .i64 (t).n,.bool (t).hid,.str (t).name,slD 2 encL (t).levels,slD 6 encT (t).kids]),.int .i64 d,.ptr r 0 0,c]=true:=by
      rw [allL_eq,List.all_cons,List.all_cons,List.all_cons,List.all_cons,List.all_nil,← encT_eq,inT,hci,in_int,in_ptr,memN_self]
      rfl
    have f4:inH (fun r'=>memN r' [r]) (subH [r] h)=true:=inH_all (fun x hx=>by
      have:x = (r,getO h r):=List.mem_singleton.1 hx
      rw [this,hb]
      exact ⟨memN_self,rfl⟩)
    have f5:inH (ofR [r] (m+1)) gg=true:=inH_all (fun x hx=>by
      by_cases e:x.1 < m+1
      · obtain ⟨y,rfl⟩:=hlow x hx e
        refine ⟨?_,rfl⟩
        show Bool.or (Nat.ble (m+1) r) (memN r [r])=true
        rw [memN_self]; cases Nat.ble (m+1) r <;> rfl
      · exact ⟨hP _ (by omega),K.own x hx (by omega) _ hP⟩)
    have f6:inD (ofR [r] (m+1)) 20 dd=true:=T.inD (fun q hq=>hP q (K.ge q hq).1) 18
    show ifR (Bool.and (allN (fun r'=>Nat.ble r' m) [r]) (Bool.and true (Bool.and (allL (inD (fun r'=>memN r' [r]) 20) [(D.agg [.int .i64 (t).form,.int .i64 (t).n,.bool (t).hid,.str (t).name,slD 2 encL (t).levels,slD 6 encT (t).kids]),.int .i64 d,.ptr r 0 0,c]) (Bool.and (inH (fun r'=>memN r' [r]) (subH [r] h)) (Bool.and (inD (ofR [r] (m+1)) 20 dd) (inH (ofR [r] (m+1)) gg)))))) (.ok _ _ _)=_
    rw [f1,f3,f4,f5,f6]
    rfl
  · refine Tq.congr v dd rs T (fun q hq=>getO_appl ?_)
    rcases Tq.rows v dd rs T q hq with ⟨ls,e⟩ | ⟨ds,e,_⟩ <;> rw [e] <;> simp
  · intro n0 hb0 h0 hr0 H
    have hkeep:∀ p,p∈appH gg (delO h r)→p∈gg∨p∈h:=fun p hp=>by
      rw [appH_eq] at hp
      rcases List.mem_append.1 hp with hp | hp
      · exact .inl hp
      · exact .inr (mem_delO hp).1
    refine ⟨dropFrom n0 (appH gg (delO h r)),⟨by omega,fun k hk p hp=>?_,rfl,?_⟩,?_,?_,?_,?_⟩
    · rcases hkeep p hp with hp | hp
      · exact K.hp.good k hk p hp
      · exact H.good k (by omega) p hp
    · rw [leak_iff]
      intro p hp hq
      rcases hkeep p hp with hp | hp
      · obtain ⟨y,rfl⟩:=hlow p hp (by omega)
        exact lowI
      · exact leak_iff.1 H.leak p hp hq
    · rw [getO_dropFrom,if_pos hr0]; exact hget1
    · intro p hp
      obtain ⟨h1,h2⟩:=mem_drop.1 hp
      rcases hkeep p h1 with hp | hp
      · exact .inl (hlow p hp (by omega))
      · right; rw [← H.drop]; exact mem_drop.2 ⟨hp,h2⟩
    · intro q hq
      rw [← H.drop,getO_dropFrom,getO_dropFrom]
      by_cases e:q < n0
      · rw [if_pos e,if_pos e,hget2 q (by omega) hq]
      · rw [if_neg e,if_neg e]
    · rw [← H.drop,appH_eq]
      have key:∀ X:List (Nat×Ob),(∀ x,x∈X→x.1 < n0→x.1=r)→delO (dropFrom n0 (X++delO h r)) r=delO (dropFrom n0 (delO h r)) r:=by
        intro X
        induction X with
        | nil=>intro _; rfl
        | cons a l ih =>
          intro hX
          obtain ⟨q,o⟩:=a
          have ihl:=ih (fun x hx=>hX x (by simp [hx]))
          rw [List.cons_append]
          by_cases e:q < n0
          · have:q=r:=hX (q,o) (by simp) e
            subst this
            rw [drop_old e,delO_hd,ihl]
          · rw [drop_new (by omega),ihl]
      rw [key gg (fun x hx hq=>by obtain ⟨y,rfl⟩:=hlow x hx (by omega); rfl),drop_delO,delO_twice]
end Go.Proofs.Ytdijijblccmfbaa
