/- A term in memory of its own, with one kid more behind each list; it is as it was. No condition but sizes. -/
import Derived.Test.YtdijijblccmfbaaNTMD
import Derived.Test.YtdijijblccmfbaaNCF1
set_option linter.unusedSimpArgs false
set_option linter.unusedVariables false
namespace Go.Proofs.Ytdijijblccmfbaa
open Go
open Nat (reduceAdd reduceLT reduceLeDiff reduceEqDiff reduceMul)

def lastT:Tm := .mk (-71) 0 false [] (Sl.app []) true false [] []
mutual
def lentT:Tm→Tm
  | .mk f n hd nm ls _ _ ks _ => .mk f n hd nm ls true false (lents ks) [lastT]
def lents:List Tm→List Tm
  | []=>[]
  | k::t=>lentT k::lents t
end
theorem lents_eq (l:List Tm):lents l=l.map lentT:=by
  induction l with
  | nil=>rw [lents]; rfl
  | cons k t ih=>rw [lents,ih]; rfl
def lentK (t:Tm):Sl Tm:=⟨true,false,t.kids.el.map lentT,[lastT]⟩
theorem lent_eq (t:Tm):lentT t = .mk t.form t.n t.hid t.name t.levels true false (t.kids.el.map lentT) [lastT]:=by cases t; rw [lentT,lents_eq]; rfl
theorem lent_enc (t:Tm):encT (lentT t) = .agg [.int .i64 t.form,.int .i64 t.n,.bool t.hid,.str t.name,slD 2 encL t.levels,slD 6 encT (lentK t)]:=by rw [lent_eq,encT_eq]; rfl
theorem lent_sl (t:Tm):slD 6 encT (lentK t) = .sl 6 ((t.kids.el.map lentT).map encT) [encT lastT] false:=by
  unfold slD lentK
  show (bif (true && (t.kids.el.map lentT).isEmpty && false) then D.nils else _)=_
  rw [Bool.and_false]; rfl
theorem last_enc:encT lastT = .agg [.int .i64 (-71),.int .i64 0,.bool false,.str [],.nils,.nils]:=by rw [encT_eq]; rfl
theorem lent_abs:∀ t:Tm,(lentT t).abs=t.abs:=by
  refine Tm.ind ?_
  intro t ih
  rw [lent_eq,abs_eq t,abs_eq]
  show Trm.mk t.form t.n t.hid t.name (t.levels.el.map SLev.lev) ((t.kids.el.map lentT).map Tm.abs)=_
  rw [List.map_map]
  exact congrArg _ (List.map_congr_left (fun k hk=>ih k hk))
def narrowT (t:Trm):Bool:=allT (fun t=>decide (t.kids.length≤2000000)) t
theorem narrow_eq (t:Trm):narrowT t=true↔t.kids.length≤2000000∧∀ k,k∈t.kids→narrowT k=true:=by
  show allT _ t=true↔_
  rw [allT_eq,allTs_eq,Bool.and_eq_true,decide_eq_true_iff,List.all_eq_true]
  rfl
theorem narrow_tm {t:Tm} (h:narrowT t.abs=true):t.kids.el.length≤2000000∧∀ k,k∈t.kids.el→narrowT k.abs=true:=by
  obtain ⟨h1,h2⟩ := (narrow_eq _).1 h
  rw [abs_kids,List.length_map] at h1
  rw [abs_kids] at h2
  exact ⟨h1,fun k hk=>h2 _ (List.mem_map.2 ⟨k,hk,rfl⟩)⟩
theorem Fz.spare {α:Type} {enc:α→D} {k n0 r:Nat} {h:Hps} {l:List α} {x:α} (he:ElemOk k enc) (hk:0 < k) (hr:n0≤r) (hg:getO h r = .row k ((l++[x]).map enc)):Fz 3 n0 h (.ms k r 0 l.length false) (.sl k (l.map enc) [enc x] false):=by
  have key:∀ f,3≤f→∃ g,f=g+3:=fun f hf=>⟨f - 3,by omega⟩
  refine ⟨fun f hf=>?_,fun f hf=>?_,fun f hf=>?_,fun f hf=>?_⟩ <;> obtain ⟨g,rfl⟩:=key f hf
  · show Bool.rec (motive:=fun _=>D) (frzO (Ytdijijblccmfbaa.frz h n0 (g+2)) k 0 l.length false (getO h r)) (.ms k r 0 l.length false) (Nat.blt r n0)=_
    rw [blt_iff,decide_eq_false (by omega),hg]
    show Bool.rec (motive:=fun _=>D) .junk (frzS k (mapL (Ytdijijblccmfbaa.frz h n0 (g+2)) (takeL l.length (dropL 0 ((l++[x]).map enc)))) (dropL (0+l.length) ((l++[x]).map enc)) false) (Bool.and (Nat.beq k k) (Nat.ble (0+l.length) (lenL ((l++[x]).map enc))))=_
    rw [Nat.beq_refl,lenL_eq,List.length_map,Nat.zero_add,ble_iff,decide_eq_true (by rw [List.length_append]; omega),takeL_eq,dropL_eq,dropL_eq,List.drop_zero,List.map_append,mapL_eq]
    rw [show (l.map enc++[x].map enc).take l.length=l.map enc by rw [List.take_append_of_le_length (by rw [List.length_map]; omega),List.take_of_length_le (by rw [List.length_map]; omega)],
      show (l.map enc++[x].map enc).drop l.length=[enc x] by rw [List.drop_append_of_le_length (by rw [List.length_map]; omega),List.drop_of_length_le (by rw [List.length_map]; omega)]; rfl]
    have h1 : (l.map enc).map (Ytdijijblccmfbaa.frz h n0 (g+2))=l.map enc:=by
      rw [List.map_map]
      exact List.map_congr_left (fun x _ => (plain2 g (he.flat x)).frz h n0)
    rw [h1]
    show frzS k (l.map enc) [enc x] false=_
    unfold frzS
    have h2:allL (okE k) (l.map enc)=true:=by
      rw [allL_eq,List.all_eq_true]
      intro d hd
      obtain ⟨x,_,rfl⟩:=List.mem_map.1 hd
      exact he.ok x
    have h3:spareK k [enc x] false=[enc x]:=by
      show Bool.rec (motive:=fun _=>List D) [] [enc x] (Bool.and (Nat.blt 0 k) (allL (okE k) [enc x]))=_
      rw [blt_iff,decide_eq_true hk,allL_eq,List.all_cons,List.all_nil,he.ok x]; rfl
    rw [h2,h3]
  · rfl
  · rfl
  · rfl
noncomputable def slm1 (n:Nat) (h:Hps) (k k' r o l:Nat) (f:Bool) (x:D):Rd:=ifR (Nat.beq k k') (natR (fun u=>slM n h k r o l f 0 u) x)
theorem slice_ms {n k k' r o l:Nat} {h:Hps} {env:Tr} {f:Bool} {u:Opd}:sliceD n h k env (.ms k' r o l f) none (some u) none=slm1 n h k k' r o l f (ev env u):=eqOf rfl
theorem slm1_ok {n k r l b:Nat} {h:Hps} {q:IntKind} (hb:b≤l):slm1 n h k k r 0 l false (.int q (b:Nat)) = .ok (.ms k r 0 b false) n h:=by
  show ifR (Nat.beq k k) (ifR (Bool.and true (Bool.and (Nat.ble b l) true)) (.ok (.ms k r (0+0) (b - 0) false) n h))=_
  rw [Nat.beq_refl,ble_iff,decide_eq_true hb,Nat.sub_zero]; rfl
theorem take_set {l:List Tm} {i:Nat} (hi:i < l.length) : ((l.take i).map lentT++l.drop i).set i (lentT l[i]) = (l.take (i+1)).map lentT++l.drop (i+1):=by
  rw [List.set_append_right _ _ (by rw [List.length_map,List.length_take]; omega),List.length_map,List.length_take,Nat.min_eq_left (by omega),Nat.sub_self,List.drop_eq_getElem_cons hi,List.set_cons_zero,List.take_succ_eq_append_getElem hi,List.map_append,List.append_assoc]
  rfl
set_option maxHeartbeats 8000000 in
theorem wLent:∀ t:Tm,narrowT t.abs=true→∀ (n:Nat) (h:Hps),Gd n h→callFn (LX (cFk kL Try.prog)) n h [(D.agg [.int .i64 (t).form,.int .i64 (t).n,.bool (t).hid,.str (t).name,slD 2 encL (t).levels,slD 6 encT (t).kids])] (cFk kL Try.prog 14) = .ok (encT (lentT t)) n h:=by
  refine Tm.ind ?_
  intro t ih hsl n h hg
  obtain ⟨hk,hks⟩:=narrow_tm hsl
  have hgn:=hg n (Nat.le_refl _)
  have H0:Hp n h (n+2) ((n+1,(Ob.row 6 [.agg [.int .i64 0,.int .i64 0,.bool false,.str [],.nils,.nils]])) :: (n,(Ob.row 6 [.agg [.int .i64 (t).form,.int .i64 (t).n,.bool (t).hid,.str (t).name,slD 2 encL (t).levels,slD 6 encT (t).kids]]))::h) := ((Hp.start hg).box (r:=n) (m:=n+1) (Nat.le_refl _) (by omega) (flatTA t)).box (r:=n+1) (m:=n+2) (k:=6) (d := (D.agg [.int .i64 0,.int .i64 0,.bool false,.str [],.nils,.nils])) (by omega) (by omega) rfl
  obtain ⟨D1,K1,A1⟩:=app_bldx (b:=88) (n1:=n+2) (l:=[]) (d := .nils) (.inl ⟨rfl,rfl⟩:Bld 6 encT (n+2) [] _ .nils) H0 (by omega) (Nat.le_refl _) (fun m x=>low_flat (flatT x)) t.kids.el (by simp; omega)
  have a1:=fun m hm => (A1 m hm).1
  rw [f14_eq]; unfold c14; rw [callFn_eq (by rfl)]
  simp (disch:=first|assumption|omega|(simp (disch:=first|assumption|omega) only [sB,reduceAdd,reduceLT,reduceLeDiff,reduceEqDiff,reduceMul,↓reduceIte];done)|fail) only [sA,↓reduceIte,reduceLT,reduceEqDiff,reduceAdd,reduceLeDiff,a1]
  obtain ⟨_,B0,HK,gK,_⟩:=A1 (n+4) (by omega)
  rw [List.nil_append] at B0
  have z0:getO (K1 (n+4)) n = (Ob.row 6 [.agg [.int .i64 (t).form,.int .i64 (t).n,.bool (t).hid,.str (t).name,slD 2 encL (t).levels,slD 6 encT (t).kids]]):=by rw [gK n (by omega),getO_tl (by omega),getO_hd]
  have z1:getO (K1 (n+4)) (n+1) = (Ob.row 6 [.agg [.int .i64 0,.int .i64 0,.bool false,.str [],.nils,.nils]]):=by rw [gK (n+1) (by omega),getO_hd]
  generalize D1 (n+4)=dd at B0
  generalize K1 (n+4)=K at B0 HK z0 z1
  clear A1 a1 gK
  have hdd:∀ G L,Bld 6 encT (n+2) L G dd→L.length=t.kids.el.length→0 < t.kids.el.length→∃ q,n+2≤q∧dd = .ms 6 q 0 t.kids.el.length false∧getO G q = .row 6 (L.map encT):=by
    intro G L B hL h0
    rcases B with ⟨rfl,_⟩ | ⟨q,_,hq,e,hg⟩
    · rw [List.length_nil] at hL; omega
    · exact ⟨q,hq,by rw [e,hL],hg⟩
  have hlen:∀ m h,lenD m h .slice dd = .ok (.int .i64 (t.kids.el.length:Nat)) m h:=fun m h=>by
    rcases B0 with ⟨e0,e⟩ | ⟨q,_,hq,e,hg⟩
    · rw [e,e0]; rfl
    · rw [e]; rfl
  generalize hr:LX (cFk kL Try.prog) (.loop l14_0) _ _ _=R
  obtain ⟨x,ez,nz,G,rfl,rfl,Hz,p1,B,y0,y1,q1,q2,q3⟩:=loop_up hr t.kids.el.length
    (fun i e n' G=>Hp n h n' G∧n+5≤n'∧Bld 6 encT (n+2) ((t.kids.el.take i).map lentT++t.kids.el.drop i) G dd∧getO G n = (Ob.row 6 [.agg [.int .i64 (t).form,.int .i64 (t).n,.bool (t).hid,.str (t).name,slD 2 encL (t).levels,slD 6 encT (t).kids]])∧getO G (n+1) = (Ob.row 6 [.agg [.int .i64 0,.int .i64 0,.bool false,.str [],.nils,.nils]])∧get (po 1) e = .ptr n 0 0∧get (po 2) e = .ptr (n+1) 0 0∧get (po 3) e=dd∧get (po 4) e = .int .i64 (i:Nat))
    (fun x e n' G=>x = .exit 0∧Hp n h n' G∧n+5≤n'∧Bld 6 encT (n+2) (t.kids.el.map lentT) G dd∧getO G n = (Ob.row 6 [.agg [.int .i64 (t).form,.int .i64 (t).n,.bool (t).hid,.str (t).name,slD 2 encL (t).levels,slD 6 encT (t).kids]])∧getO G (n+1) = (Ob.row 6 [.agg [.int .i64 0,.int .i64 0,.bool false,.str [],.nils,.nils]])∧get (po 1) e = .ptr n 0 0∧get (po 2) e = .ptr (n+1) 0 0∧get (po 3) e=dd)
    (by
      rintro e n' G ⟨H,p1,B,y0,y1,q1,q2,q3,q4⟩
      rw [List.take_length,List.drop_length,List.append_nil] at B
      unfold l14_0
      simp (disch:=first|assumption|omega|(simp (disch:=first|assumption|omega) only [sB,reduceAdd,reduceLT,reduceLeDiff,reduceEqDiff,reduceMul,↓reduceIte];done)|fail) only [sA,↓reduceIte,reduceLT,reduceEqDiff,reduceAdd,reduceLeDiff,q3,q4,hlen]
      exact ⟨_,_,_,_,rfl,by simp,rfl,H.mono (by omega),by omega,B,y0,y1,by simp +decide only [sG,q1],by simp +decide only [sG,q2],by simp +decide only [sG,q3]⟩)
    (by
      rintro i e n' G hi ⟨H,p1,B,y0,y1,q1,q2,q3,q4⟩
      obtain ⟨L,hLe⟩:∃ L,(t.kids.el.take i).map lentT++t.kids.el.drop i=L:=⟨_,rfl⟩
      rw [hLe] at B
      have hLl:L.length=t.kids.el.length:=by rw [← hLe,List.length_append,List.length_map,List.length_take,List.length_drop]; omega
      obtain ⟨q,hq,ed,gq⟩:=hdd G _ B hLl (by omega)
      have hset:L.set i (lentT t.kids.el[i]) = (t.kids.el.take (i+1)).map lentT++t.kids.el.drop (i+1):=by rw [← hLe]; exact take_set hi
      have hil:i < L.length:=by omega
      have hLi:L[i]=t.kids.el[i]:=by
        subst hLe
        rw [List.getElem_append_right (by rw [List.length_map,List.length_take]; omega)]
        simp only [List.length_map,List.length_take,List.getElem_drop]
        congr 1
        omega
      have gG:∀ m,n'≤m→Gd m G:=fun m hm k hk=>H.good k (by omega)
      have c1:=ih t.kids.el[i] (List.getElem_mem hi) (hks _ (List.getElem_mem hi))
      have e1:encT L[i] = (D.agg [.int .i64 (t.kids.el[i]).form,.int .i64 (t.kids.el[i]).n,.bool (t.kids.el[i]).hid,.str (t.kids.el[i]).name,slD 2 encL (t.kids.el[i]).levels,slD 6 encT (t.kids.el[i]).kids]):=by rw [hLi,encT_eq]
      rw [encT_eq (lentT t.kids.el[i])] at c1
      have qlt:q < n':=getO_low (H.good n' (Nat.le_refl _)) (by rw [gq]; simp)
      unfold l14_0
      rw [ed] at q3
      have eg : (L.map encT).getD i .junk = (D.agg [.int .i64 (t.kids.el[i]).form,.int .i64 (t.kids.el[i]).n,.bool (t.kids.el[i]).hid,.str (t.kids.el[i]).name,slD 2 encL (t.kids.el[i]).levels,slD 6 encT (t.kids.el[i]).kids]):=by rw [List.getD_eq_getElem?_getD,List.getElem?_map,List.getElem?_eq_getElem hil]; exact e1
      simp (disch:=first|assumption|omega|(simp (disch:=first|assumption|omega) only [sB,reduceAdd,reduceLT,reduceLeDiff,reduceEqDiff,reduceMul,↓reduceIte,hil,gG];done)|fail) only [sA,↓reduceIte,reduceLT,reduceEqDiff,reduceAdd,reduceLeDiff,q3,q4,gq,iaddr_ms,eg,store_tm,c1,hil,gG]
      refine ⟨_,_,_,_,rfl,.inl ⟨rfl,(H.set (r:=q) (by omega) (fun k hk=>lowO_map (fun x=>low_flat (flatT x)))).mono (by omega),by omega,?_,getO_set2 gq y0 (by omega),getO_set2 gq y1 (by omega),by simp +decide only [sG,q1],by simp +decide only [sG,q2],by simp (disch:=first|assumption|omega|(simp (disch:=first|assumption|omega) only [sB,reduceAdd,reduceLT,reduceLeDiff,reduceEqDiff,reduceMul,↓reduceIte];done)|fail) only [sA,↓reduceIte,reduceLT,reduceEqDiff,reduceAdd,reduceLeDiff,q3,ed],by simp +decide only [sG]⟩⟩
      rw [hset,ed]
      refine .inr ⟨q,?_,hq,?_,getO_set1 gq⟩
      · intro e; rw [← hset] at e; have:=congrArg List.length e; rw [List.length_set,List.length_nil] at this; omega
      · rw [← hset,List.length_set,hLl])
    ⟨HK.mono (by omega),by omega,by rw [List.take_zero,List.map_nil,List.nil_append,List.drop_zero]; exact B0,z0,z1,by simp +decide only [sG],by simp +decide only [sG],by simp +decide only [sG],by simp (disch:=first|assumption|omega|(simp (disch:=first|assumption|omega) only [sB,reduceAdd,reduceLT,reduceLeDiff,reduceEqDiff,reduceMul,↓reduceIte];done)|fail) only [sA,↓reduceIte,reduceLT,reduceEqDiff,reduceAdd,reduceLeDiff]⟩
  obtain ⟨D2,K2,A2⟩:=app_bldx (b:=88) (n1:=n+2) B Hz (by omega) (by omega) (fun m x=>low_flat (flatT x)) [lastT] (by simp; omega)
  have a2:=fun m hm => (A2 m hm).1
  obtain ⟨_,B2,HK2,gK2,_⟩:=A2 (nz+3) (by omega)
  simp only [List.map_cons,List.map_nil,last_enc] at a2
  have y2:getO (K2 (nz+3)) n = (Ob.row 6 [.agg [.int .i64 (t).form,.int .i64 (t).n,.bool (t).hid,.str (t).name,slD 2 encL (t).levels,slD 6 encT (t).kids]]):=by rw [gK2 n (by omega)]; exact y0
  have y3:getO (K2 (nz+3)) (n+1) = (Ob.row 6 [.agg [.int .i64 0,.int .i64 0,.bool false,.str [],.nils,.nils]]):=by rw [gK2 (n+1) (by omega)]; exact y1
  obtain ⟨q,hq,ed2,gq⟩:∃ q,n+2≤q∧D2 (nz+3) = .ms 6 q 0 (t.kids.el.length+1) false∧getO (K2 (nz+3)) q = .row 6 ((t.kids.el.map lentT++[lastT]).map encT):=by
    rcases B2 with ⟨e0,_⟩ | ⟨q,_,hq,e,hg⟩
    · simp at e0
    · exact ⟨q,hq,by rw [e,List.length_append,List.length_map]; rfl,hg⟩
  have w0:∀ X,getO (setO (K2 (nz+3)) n X) n=X:=fun X=>getO_setO_same (by rw [y2]; simp)
  have w1:∀ X,getO (setO (K2 (nz+3)) n X) (n+1) = (Ob.row 6 [.agg [.int .i64 0,.int .i64 0,.bool false,.str [],.nils,.nils]]):=fun X=>getO_set2 y2 y3 (by omega)
  have w2:∀ X Y,getO (setO (setO (K2 (nz+3)) n X) (n+1) Y) (n+1)=Y:=fun X Y=>getO_setO_same (by rw [w1]; simp)
  have qlt:q < nz+4:=getO_low (HK2.good (nz+4) (Nat.le_refl _)) (by rw [gq]; simp)
  have hms:∀ k,nz+4≤k→lowO k (.row 6 [.agg [.int .i64 t.form,.int .i64 t.n,.bool t.hid,.str t.name,slD 2 encL t.levels,.ms 6 q 0 t.kids.el.length false]]):=fun k hk=>lowO_one (low_tms (by omega))
  have HH:Hp n h (nz+11) _ := ((HK2.set (r:=n) (by omega) hms).set (r:=n+1) (by omega) hms).mono (by omega)
  have F:=finishD_fz (n:=nz+11) (Fz.agg (.cons ((Fz.of1 (d := .int .i64 t.form) rfl).mono (show 1≤3 by omega)) (.cons ((Fz.of1 (d := .int .i64 t.n) rfl).mono (show 1≤3 by omega)) (.cons ((Fz.of1 (d := .bool t.hid) rfl).mono (show 1≤3 by omega)) (.cons ((Fz.of1 (d := .str t.name) rfl).mono (show 1≤3 by omega)) (.cons ((Fz.of1 (d:=slD 2 encL t.levels) flat1_slD).mono (show 1≤3 by omega)) (.cons (Fz.spare (r:=q) (l:=t.kids.el.map lentT) (x:=lastT) elemT (by decide) (by omega) (getO_set2 (w1 _) (getO_set2 y2 gq (by omega)) (by omega))) .nil))))))) (by omega) HH.leak
  rw [List.length_map] at F
  simp (disch:=first|assumption|omega|(simp (disch:=first|assumption|omega) only [sB,reduceAdd,reduceLT,reduceLeDiff,reduceEqDiff,reduceMul,↓reduceIte];done)|fail) only [sA,↓reduceIte,reduceLT,reduceEqDiff,reduceAdd,reduceLeDiff,q1,q2,q3,a2,ed2,slice_ms,slm1_ok,hlen,y2,y3,w0,w1,w2]
  rw [F,HH.drop,lent_enc,lent_sl]
theorem same_int (a:Int):decide (a=a)=true:=decide_eq_true rfl
theorem same_str (a:List Nat):decide (a=a)=true:=decide_eq_true rfl
set_option maxHeartbeats 8000000 in
theorem wStay:∀ t:Tm,narrowT t.abs=true→∀ (n:Nat) (h:Hps),Gd n h→callFn (LX (cFk kL Try.prog)) n h [.agg [.int .i64 t.form,.int .i64 t.n,.bool t.hid,.str t.name,slD 2 encL t.levels,slD 6 encT (lentK t)],(D.agg [.int .i64 (t).form,.int .i64 (t).n,.bool (t).hid,.str (t).name,slD 2 encL (t).levels,slD 6 encT (t).kids])] (cFk kL Try.prog 18) = .ok (.bool true) n h:=by
  refine Tm.ind ?_
  intro t ih hsl n h hg
  obtain ⟨hk,hks⟩:=narrow_tm hsl
  have hgn:=hg n (Nat.le_refl _)
  have fl:flat (.agg [.int .i64 t.form,.int .i64 t.n,.bool t.hid,.str t.name,slD 2 encL t.levels,slD 6 encT (lentK t)])=true:=by rw [← lent_enc]; exact flatT _
  have H0:Hp n h (n+2) ((n+1,(Ob.row 6 [.agg [.int .i64 (t).form,.int .i64 (t).n,.bool (t).hid,.str (t).name,slD 2 encL (t).levels,slD 6 encT (t).kids]])) :: (n,.row 6 [.agg [.int .i64 t.form,.int .i64 t.n,.bool t.hid,.str t.name,slD 2 encL t.levels,slD 6 encT (lentK t)]])::h) := ((Hp.start hg).box (r:=n) (m:=n+1) (Nat.le_refl _) (by omega) fl).box (r:=n+1) (m:=n+2) (by omega) (by omega) (flatTA t)
  have hb : (t.hid == t.hid)=true:=beq_self_eq_true _
  have lkl : (lentK t).el.length=t.kids.el.length:=by unfold lentK; rw [List.length_map]
  have lks : (lentK t).sp.length=1:=rfl
  have hcl:t.kids.el.length < ((lentK t).cut 0 (t.kids.el.length+1)).el.length:=by
    show _ < ((((lentK t).el ++ (lentK t).sp).drop 0).take (t.kids.el.length+1 - 0)).length
    rw [List.drop_zero,List.length_take,List.length_append,lkl,lks]; omega
  have hce:∀ hh,((lentK t).cut 0 (t.kids.el.length+1)).el[t.kids.el.length]'hh=lastT:=fun hh=>by
    have e : ((lentK t).cut 0 (t.kids.el.length+1)).el=t.kids.el.map lentT++[lastT]:=by
      show (((t.kids.el.map lentT++[lastT]).drop 0).take (t.kids.el.length+1 - 0))=_
      rw [List.drop_zero,List.take_of_length_le (by rw [List.length_append,List.length_map,List.length_singleton]; omega)]
    simp only [e]
    rw [List.getElem_append_right (by rw [List.length_map]; omega)]
    simp
  rw [f18_eq]; unfold c18; rw [callFn_eq (by rfl)]
  simp (disch:=first|assumption|omega|(simp (disch:=first|assumption|omega) only [sB,reduceAdd,reduceLT,reduceLeDiff,reduceEqDiff,reduceMul,↓reduceIte,hcl,lkl,lks];done)|fail) only [sA,↓reduceIte,reduceLT,reduceEqDiff,reduceAdd,reduceLeDiff,same_int,same_str,hb,str_neq,lkl,hce,last_enc,hcl,lkl,lks]
  generalize hr:LX (cFk kL Try.prog) (.loop l18_0) _ _ _=R
  obtain ⟨x,ez,nz,G,rfl,rfl,Hz⟩:=loop_up hr t.kids.el.length
    (fun i e n' G=>Hp n h n' G∧n+2≤n'∧getO G n = .row 6 [.agg [.int .i64 t.form,.int .i64 t.n,.bool t.hid,.str t.name,slD 2 encL t.levels,slD 6 encT (lentK t)]]∧getO G (n+1) = (Ob.row 6 [.agg [.int .i64 (t).form,.int .i64 (t).n,.bool (t).hid,.str (t).name,slD 2 encL (t).levels,slD 6 encT (t).kids]])∧get (po 2) e = .ptr n 0 0∧get (po 3) e = .ptr (n+1) 0 0∧get (po 5) e = .int .i64 (t.kids.el.length:Nat)∧get (po 6) e = .int .i64 (i:Nat))
    (fun x e n' G=>x = .exit 0∧Hp n h n' G)
    (by
      rintro e n' G ⟨H,p1,y0,y1,q2,q3,q5,q6⟩
      unfold l18_0
      simp (disch:=first|assumption|omega|(simp (disch:=first|assumption|omega) only [sB,reduceAdd,reduceLT,reduceLeDiff,reduceEqDiff,reduceMul,↓reduceIte];done)|fail) only [sA,↓reduceIte,reduceLT,reduceEqDiff,reduceAdd,reduceLeDiff,q5,q6]
      exact ⟨_,_,_,_,rfl,by simp,rfl,H.mono (by omega)⟩)
    (by
      rintro i e n' G hi ⟨H,p1,y0,y1,q2,q3,q5,q6⟩
      have hil:i < (lentK t).el.length:=by rw [lkl]; exact hi
      have hG:∀ m,n'≤m→Gd m G:=fun m hm=>H.good' hm
      have hky:∀ m,n'≤m→keysFrom m G=[]:=fun m hm=>keys_gd (hG m hm)
      have c1:=ih t.kids.el[i] (List.getElem_mem hi) (hks _ (List.getElem_mem hi))
      have eL:∀ hh,encT ((lentK t).el[i]'hh) = .agg [.int .i64 t.kids.el[i].form,.int .i64 t.kids.el[i].n,.bool t.kids.el[i].hid,.str t.kids.el[i].name,slD 2 encL t.kids.el[i].levels,slD 6 encT (lentK t.kids.el[i])]:=fun hh=>by
        rw [← lent_enc]
        congr 1
        simp [lentK]
      have eW:encT t.kids.el[i] = (D.agg [.int .i64 (t.kids.el[i]).form,.int .i64 (t.kids.el[i]).n,.bool (t.kids.el[i]).hid,.str (t.kids.el[i]).name,slD 2 encL (t.kids.el[i]).levels,slD 6 encT (t.kids.el[i]).kids]):=encT_eq _
      unfold l18_0
      simp (disch:=first|assumption|omega|(simp (disch:=first|assumption|omega) only [sB,reduceAdd,reduceLT,reduceLeDiff,reduceEqDiff,reduceMul,↓reduceIte,hG,gd_nil,hil];done)|fail) only [sA,↓reduceIte,reduceLT,reduceEqDiff,reduceAdd,reduceLeDiff,q2,q3,q5,q6,y0,y1,eL,eW,c1,hky,hG,gd_nil,hil]
      exact ⟨_,_,_,_,rfl,.inl ⟨rfl,H.mono (by omega),by omega,y0,y1,by simp +decide only [sG,q2],by simp +decide only [sG,q3],by simp +decide only [sG,q5],by simp +decide only [sG]⟩⟩)
    ⟨H0.mono (by omega),by omega,by rw [getO_tl (by omega),getO_hd],getO_hd,by simp +decide only [sG],by simp +decide only [sG],by simp +decide only [sG],by simp (disch:=first|assumption|omega|(simp (disch:=first|assumption|omega) only [sB,reduceAdd,reduceLT,reduceLeDiff,reduceEqDiff,reduceMul,↓reduceIte];done)|fail) only [sA,↓reduceIte,reduceLT,reduceEqDiff,reduceAdd,reduceLeDiff]⟩
  simp (disch:=first|assumption|omega|(simp (disch:=first|assumption|omega) only [sB,reduceAdd,reduceLT,reduceLeDiff,reduceEqDiff,reduceMul,↓reduceIte];done)|fail) only [sA,↓reduceIte,reduceLT,reduceEqDiff,reduceAdd,reduceLeDiff,finish_flat (d := .bool true) rfl (Hz.mono (show nz≤nz+1 by omega))]
end Go.Proofs.Ytdijijblccmfbaa
