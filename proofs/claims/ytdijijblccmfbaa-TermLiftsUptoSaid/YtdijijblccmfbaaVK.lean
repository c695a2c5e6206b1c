/- TermLifts: a term with its free variables lifted; two answers in hand are two. Condition: what is handed in is of bulk at most 1048576. -/
import Derived.Test.YtdijijblccmfbaaVI
import Derived.Test.YtdijijblccmfbaaVH
import Derived.Test.YtdijijblccmfbaaNTT
set_option linter.unusedSimpArgs false
set_option linter.unusedVariables false
namespace Go.Proofs.Ytdijijblccmfbaa
open Go Go.ChangeShapes Go.WideShapes Go.ChangeAt Go.RowKit
open Nat (reduceAdd reduceLT reduceLeDiff reduceEqDiff reduceMul)

theorem leak_no (h:Hps):Ytdijijblccmfbaa.leak 0 h=false:=by
  induction h with
  | nil=>rfl
  | cons p t ih=>rw [show p = (p.1,p.2) from rfl,leak_new (Nat.zero_le _)]; exact ih
theorem rl_parts {t:Trm} (b a:Int):checkT (rlift b (cleanT t) a)=checkT (rlift b t a):=by rw [← clean_lift,clean_check]
set_option maxHeartbeats 4000000 in
theorem rLiftK (t:Tm) (hw:fewT t.abs=true) (hs:sizeT1 t.abs=true) (a b:Int):∃ t' e,LiftX t.abs a b t'.abs e∧sizeT1 t'.abs=true∧∀ n h,Gd n h→callFn (LX (cFk kL Try.prog)) n h [(D.agg [.int .i64 (t).form,.int .i64 (t).n,.bool (t).hid,.str (t).name,slD 2 encL (t).levels,slD 6 encT (t).kids]),.int .i64 a,.int .i64 b] (cFk kL Try.prog 17) = .ok (.tup [encT t',.int .i64 e]) n h:=by
  have hz:sizeT1 zeroT.abs=true:=by decide
  have c1:∀ m h,Gd m h→callFn (LX (cFk kL Try.prog)) m h [(D.agg [.int .i64 (t).form,.int .i64 (t).n,.bool (t).hid,.str (t).name,slD 2 encL (t).levels,slD 6 encT (t).kids])] (cFk kL Try.prog 27) = .ok (.int .i64 (checkT t.abs)) m h:=rCheck t (size1_sane _ hs)
  by_cases hc:checkT t.abs=0
  case neg =>
    refine ⟨zeroT,checkT t.abs,.inl ⟨hc,rfl,rfl⟩,hz,fun n h hg=>?_⟩
    have hG:∀ m,n≤m→Gd m h:=fun m hm=>hg.mono hm
    rw [enc_zero]
    rw [f17_eq]; unfold c17; rw [callFn_eq (by rfl)]
    simp (disch:=first|assumption|omega|(simp (disch:=first|assumption|omega) only [sB,reduceAdd,reduceLT,reduceLeDiff,reduceEqDiff,reduceMul,↓reduceIte,hG,gd_tm,gd_zt];done)|fail) only [sA,↓reduceIte,reduceLT,reduceEqDiff,reduceAdd,reduceLeDiff,c1,hc,hG,gd_tm,gd_zt]
    exact fin_pair hg rfl rfl (flatTA _) (by omega)
  by_cases hab:rangeB a b
  case neg =>
    refine ⟨zeroT,1,.inr (.inl ⟨hc,hab,rfl,rfl⟩),hz,fun n h hg=>?_⟩
    have hG:∀ m,n≤m→Gd m h:=fun m hm=>hg.mono hm
    rw [enc_zero]
    unfold rangeB at hab
    rw [f17_eq]; unfold c17; rw [callFn_eq (by rfl)]
    by_cases h1:a < 0
    · simp (disch:=first|assumption|omega|(simp (disch:=first|assumption|omega) only [sB,reduceAdd,reduceLT,reduceLeDiff,reduceEqDiff,reduceMul,↓reduceIte,hG,gd_tm,gd_zt];done)|fail) only [sA,↓reduceIte,reduceLT,reduceEqDiff,reduceAdd,reduceLeDiff,c1,hc,h1,hG,gd_tm,gd_zt]
      exact fin_pair hg rfl rfl (flatTA _) (by omega)
    by_cases h2:b < 0
    · simp (disch:=first|assumption|omega|(simp (disch:=first|assumption|omega) only [sB,reduceAdd,reduceLT,reduceLeDiff,reduceEqDiff,reduceMul,↓reduceIte,hG,gd_tm,gd_zt];done)|fail) only [sA,↓reduceIte,reduceLT,reduceEqDiff,reduceAdd,reduceLeDiff,c1,hc,h1,h2,hG,gd_tm,gd_zt]
      exact fin_pair hg rfl rfl (flatTA _) (by omega)
    by_cases h3 : (1048576:Int) < a
    · simp (disch:=first|assumption|omega|(simp (disch:=first|assumption|omega) only [sB,reduceAdd,reduceLT,reduceLeDiff,reduceEqDiff,reduceMul,↓reduceIte,hG,gd_tm,gd_zt];done)|fail) only [sA,↓reduceIte,reduceLT,reduceEqDiff,reduceAdd,reduceLeDiff,c1,hc,h1,h2,h3,hG,gd_tm,gd_zt]
      exact fin_pair hg rfl rfl (flatTA _) (by omega)
    have h4 : (1048576:Int) < b:=by omega
    simp (disch:=first|assumption|omega|(simp (disch:=first|assumption|omega) only [sB,reduceAdd,reduceLT,reduceLeDiff,reduceEqDiff,reduceMul,↓reduceIte,hG,gd_tm,gd_zt];done)|fail) only [sA,↓reduceIte,reduceLT,reduceEqDiff,reduceAdd,reduceLeDiff,c1,hc,h1,h2,h3,h4,hG,gd_tm,gd_zt]
    exact fin_pair hg rfl rfl (flatTA _) (by omega)
  obtain ⟨a1,b1,a2,b2⟩:=hab
  have hab:rangeB a b:=⟨a1,b1,a2,b2⟩
  obtain ⟨g1,g2,g3⟩:=good_parts hc
  obtain ⟨u,hu,cu⟩:=rlT (b:=b) (by omega) t (slim_of _ g1 hw) a a1 (by omega)
  have su:sizeT1 u.abs=true:=by rw [hu]; exact size1_lift b _ hs a
  have cW:=rWhole u su
  rw [encT_eq] at cu
  by_cases hy:checkT u.abs=0
  · refine ⟨rcl u,0,.inr (.inr (.inr ⟨hc,hab,by rw [rl_parts,← hu]; exact hy,rfl,by rw [rcl_abs,hu,clean_lift]⟩)),by rw [rcl_abs]; exact size1_clean _ su,fun n h hg=>?_⟩
    have hG:∀ m,n≤m→Gd m h:=fun m hm=>hg.mono hm
    simp only [if_neg (fun e:checkT u.abs≠0=>e hy)] at cW
    rw [encT_eq]
    rw [f17_eq]; unfold c17; rw [callFn_eq (by rfl)]
    simp (disch:=first|assumption|omega|(simp (disch:=first|assumption|omega) only [sB,reduceAdd,reduceLT,reduceLeDiff,reduceEqDiff,reduceMul,↓reduceIte,hG,gd_tm,gd_zt];done)|fail) only [sA,↓reduceIte,reduceLT,reduceEqDiff,reduceAdd,reduceLeDiff,c1,hc,cu,cW,hG,gd_tm,gd_zt]
    exact fin_pair hg (flat2T _) (flatTA _) (flatTA _) (by omega)
  · refine ⟨zeroT,2,.inr (.inr (.inl ⟨hc,hab,by rw [rl_parts,← hu]; exact hy,rfl,rfl⟩)),hz,fun n h hg=>?_⟩
    have hG:∀ m,n≤m→Gd m h:=fun m hm=>hg.mono hm
    simp only [if_pos hy] at cW
    rw [enc_zero]
    rw [f17_eq]; unfold c17; rw [callFn_eq (by rfl)]
    simp (disch:=first|assumption|omega|(simp (disch:=first|assumption|omega) only [sB,reduceAdd,reduceLT,reduceLeDiff,reduceEqDiff,reduceMul,↓reduceIte,hG,gd_tm,gd_zt];done)|fail) only [sA,↓reduceIte,reduceLT,reduceEqDiff,reduceAdd,reduceLeDiff,c1,hc,cu,cW,hG,gd_tm,gd_zt]
    exact fin_pair hg rfl rfl (flatTA _) (by omega)
theorem aliveL:callFn (LX (cFk kL Try.prog)) 3 [] [] ((cFk kL Try.prog) 12) = .ok (.bool true) 3 []:=by
  have h:callFn (exec (tbT.look (cFk kL Try.prog)) 1000) 3 [] [] (tbT.look (cFk kL Try.prog) 12) = .ok (.bool true) 3 []:=by kernel_rfl
  rw [Tb.look_eq tbT_ok] at h
  exact callFn_LX _ h
end Go.Proofs.Ytdijijblccmfbaa
set_option linter.unusedSimpArgs false
set_option linter.unusedVariables false
namespace Go.Proofs.Ytdijijblccmfbaa
open Go Go.ChangeShapes Go.WideShapes Go.ChangeAt Go.RowKit
open Nat (reduceAdd reduceLT reduceLeDiff reduceEqDiff reduceMul)

theorem numW (n:Nat) (h:Hps) (hg:Gd n h) (a:Int):callFn (LX (cFk kL Try.prog)) n h [.int .i64 a] (cFk kL Try.prog 19) = .ok (.int .i64 a) n h:=by
  have hgn:=hg n (Nat.le_refl _)
  rw [f19_eq]; unfold c19; rw [callFn_eq (by rfl)]
  simp (disch:=first|assumption|omega|(simp (disch:=first|assumption|omega) only [sB,reduceAdd,reduceLT,reduceLeDiff,reduceEqDiff,reduceMul,↓reduceIte];done)|fail) only [sA,↓reduceIte,reduceLT,reduceEqDiff,reduceAdd,reduceLeDiff]
theorem snap_ex {m:Nat} {G:Hps} {X Y:Tm} {d:D} {rs:List Nat} (T:Tq G X d rs) (hh:highT X.abs≤2000) (hs:sizeT1 X.abs=true) (he:X.abs=Y.abs):snapW (callX (cFk kL Try.prog) (LX (cFk kL Try.prog))) m G (.fn 20 [] []) [d,(D.agg [.int .i64 (Y).form,.int .i64 (Y).n,.bool (Y).hid,.str (Y).name,slD 2 encL (Y).levels,slD 6 encT (Y).kids])] = .ok (.bool true) (m+1) G:=by
  rw [snapW_fn,← encT_eq]
  have e1:mapL (frz G 0 5000) [d,encT Y]=[encT X,encT Y]:=by rw [mapL_eq,List.map_cons,List.map_cons,List.map_nil,Tq.frz X d rs T (fun _ _=>Nat.zero_le _) 5000 (by omega),(plain2 4998 (elemT.flat Y)).frz]
  have c1:=exT X hs Y he (m+1) [] (fun _ _=>good_nil)
  rw [e1,callX_fn,encT_eq,encT_eq]
  show snapC m G _ _ (callFn _ _ _ ([] ++ ([(D.agg [.int .i64 (X).form,.int .i64 (X).n,.bool (X).hid,.str (X).name,slD 2 encL (X).levels,slD 6 encT (X).kids]),(D.agg [.int .i64 (Y).form,.int .i64 (Y).n,.bool (Y).hid,.str (Y).name,slD 2 encL (Y).levels,slD 6 encT (Y).kids])]++[])) _)=_
  simp only [List.nil_append,List.append_nil]
  rw [c1,← encT_eq,← encT_eq]
  have h2:∀ Z:Tm,clo 20 (encT Z)=true:=fun Z=>by
    have ho:=elemT.ok Z
    unfold okE at ho
    revert ho
    cases okF 6 (encT Z) <;> simp
  exact snapC_ok rfl (by rw [List.all_cons,List.all_cons,List.all_nil,h2,h2]; rfl) rfl
set_option maxHeartbeats 8000000 in
theorem tli_run (t:Tm) (a b:Int) (st:saneT t.abs=true) (wt:fewT t.abs=true) (zt:sizeT1 t.abs=true) (nt:narrowT t.abs=true):∃ n' h',callFn (LX (cFk kL Try.prog)) 0 [] [(D.agg [.int .i64 (t).form,.int .i64 (t).n,.bool (t).hid,.str (t).name,slD 2 encL (t).levels,slD 6 encT (t).kids]),.int .i64 a,.int .i64 b] ((cFk kL Try.prog) 3) = .ok (.bool true) n' h':=by
  have F0:=fun m h=>finishD_flat (n0:=0) (n:=m) (d := .bool true) rfl (leak_no h)
  have hG0:∀ m,1≤m→Gd m [(0,(Ob.row 6 [.agg [.int .i64 (t).form,.int .i64 (t).n,.bool (t).hid,.str (t).name,slD 2 encL (t).levels,slD 6 encT (t).kids]]))]:=fun m hm=>by
    rw [gd_tm (by omega)]
    exact fun _ _=>good_nil
  obtain ⟨x,hx⟩:=bigE t st 7 [(0,(Ob.row 6 [.agg [.int .i64 (t).form,.int .i64 (t).n,.bool (t).hid,.str (t).name,slD 2 encL (t).levels,slD 6 encT (t).kids]]))] (hG0 7 (by decide))
  cases x with
  | true =>
    rw [f3_eq]; unfold c3; rw [callFn_eq (by rfl)]
    simp (disch:=first|assumption|omega|(simp (disch:=first|assumption|omega) only [sB,reduceAdd,reduceLT,reduceLeDiff,reduceEqDiff,reduceMul,↓reduceIte];done)|fail) only [sA,↓reduceIte,reduceLT,reduceEqDiff,reduceAdd,reduceLeDiff,aliveL,hx,F0]
    exact ⟨_,_,rfl⟩
  | false =>
  have cL:∀ m h,Gd m h→callFn (LX (cFk kL Try.prog)) m h [(D.agg [.int .i64 (t).form,.int .i64 (t).n,.bool (t).hid,.str (t).name,slD 2 encL (t).levels,slD 6 encT (t).kids])] (cFk kL Try.prog 14) = .ok (.agg [.int .i64 t.form,.int .i64 t.n,.bool t.hid,.str t.name,slD 2 encL t.levels,slD 6 encT (lentK t)]) m h:=fun m h hg=>by rw [wLent t nt m h hg,lent_enc]
  have cS:=wStay t nt
  have cN:∀ m h a,Gd m h→callFn (LX (cFk kL Try.prog)) m h [.int .i64 a] (cFk kL Try.prog 19) = .ok (.int .i64 a) m h:=fun m h a hg=>numW m h hg a
  obtain ⟨t1,E,L1,s1,h1h,c1⟩:=tLiftK (lentT t) (by rw [lent_abs]; exact wt) (by rw [lent_abs]; exact st) a b
  rw [← encT_eq,lent_enc] at c1
  rw [lent_abs] at L1
  obtain ⟨t2,E2,L2,s2,h2h,c2⟩:=tLiftK t wt st 0 1
  obtain ⟨t3,E3,L3,s3,cR⟩:=rLiftK t wt zt a b
  obtain ⟨e1,e2⟩:=L1.same L3
  subst e2
  have z1:sizeT1 t1.abs=true:=by rw [e1]; exact s3
  have fl:flat (.agg [.int .i64 t.form,.int .i64 t.n,.bool t.hid,.str t.name,slD 2 encL t.levels,slD 6 encT (lentK t)])=true:=by rw [← lent_enc]; exact flatT _
  have HA:Hp 0 [] 18 [(17,.row 6 [.agg [.int .i64 t.form,.int .i64 t.n,.bool t.hid,.str t.name,slD 2 encL t.levels,slD 6 encT (lentK t)]]),(0,(Ob.row 6 [.agg [.int .i64 (t).form,.int .i64 (t).n,.bool (t).hid,.str (t).name,slD 2 encL (t).levels,slD 6 encT (t).kids]]))] := ((Hp.start (n0:=0) (h0:=[]) (fun _ _=>good_nil)).box (r:=0) (m:=1) (Nat.le_refl _) (by omega) (flatTA t)).box (r:=17) (m:=18) (by omega) (by omega) fl
  obtain ⟨d1,N1,g1,r1,e1c,T1,K1⟩:=c1 23 _ (fun k hk=>HA.good k (by omega))
  have hN1:=K1.hp.le
  obtain ⟨lv1,kd1,rfl,_,_⟩:=T1.form
  have HB := ((HA.mono (show 18≤23 by omega)).comp K1.hp).cons (r:=N1+4) (m:=N1+5) (o := .row 6 [.agg [.int .i64 t1.form,.int .i64 t1.n,.bool t1.hid,.str t1.name,lv1,kd1]]) (by omega) (by omega) (fun k hk=>lowO_one (T1.low (fun q hq=>by have:=K1.ge q hq; omega)))
  obtain ⟨d2,N2,g2,r2,e2c,T2,K2⟩:=c2 (N1+9) _ (fun k hk=>HB.good k (by omega))
  have hN2:=K2.hp.le
  obtain ⟨lv2,kd2,rfl,_,_⟩:=T2.form
  have HC := ((HB.mono (show N1+5≤N1+9 by omega)).comp K2.hp).cons (r:=N2+4) (m:=N2+5) (o := .row 6 [.agg [.int .i64 t2.form,.int .i64 t2.n,.bool t2.hid,.str t2.name,lv2,kd2]]) (by omega) (by omega) (fun k hk=>lowO_one (T2.low (fun q hq=>by have:=K2.ge q hq; omega)))
  have T2':Tq ((N2+4,.row 6 [.agg [.int .i64 t2.form,.int .i64 t2.n,.bool t2.hid,.str t2.name,lv2,kd2]])::g2) t2 _ r2:=Tq.congr _ _ _ T2 (fun q hq=>by have:=K2.ge q hq; rw [getO_tl (by omega)])
  obtain ⟨g3,e3c,W3⟩:=wWipe t2 s2 _ r2 _ (N2+9) (N2+9) T2' K2.nd (fun q hq=>by have:=K2.ge q hq; omega) (Nat.le_refl _) (fun k hk=>HC.good k (by omega))
  have gd3:∀ m,N2+9≤m→Gd m g3:=fun m hm=>W3.gd hm (fun k hk=>HC.good k (by omega))
  have hr2:∀ q,q < N1+9∨N2≤q→q ∉ r2:=fun q hq hh=>by have:=K2.ge q hh; omega
  have y0:getO g1 0 = (Ob.row 6 [.agg [.int .i64 (t).form,.int .i64 (t).n,.bool (t).hid,.str (t).name,slD 2 encL (t).levels,slD 6 encT (t).kids]]):=by rw [K1.hp.get (by omega),getO_tl (by omega),getO_hd]
  have y17:getO g1 17 = .row 6 [.agg [.int .i64 t.form,.int .i64 t.n,.bool t.hid,.str t.name,slD 2 encL t.levels,slD 6 encT (lentK t)]]:=by rw [K1.hp.get (by omega),getO_hd]
  have z0:getO g3 0 = (Ob.row 6 [.agg [.int .i64 (t).form,.int .i64 (t).n,.bool (t).hid,.str (t).name,slD 2 encL (t).levels,slD 6 encT (t).kids]]):=by rw [W3.get (hr2 0 (.inl (by omega))),getO_tl (by omega),K2.hp.get (by omega),getO_tl (by omega)]; exact y0
  have z17:getO g3 17 = .row 6 [.agg [.int .i64 t.form,.int .i64 t.n,.bool t.hid,.str t.name,slD 2 encL t.levels,slD 6 encT (lentK t)]]:=by rw [W3.get (hr2 17 (.inl (by omega))),getO_tl (by omega),K2.hp.get (by omega),getO_tl (by omega)]; exact y17
  have zA:getO g3 (N1+4) = .row 6 [.agg [.int .i64 t1.form,.int .i64 t1.n,.bool t1.hid,.str t1.name,lv1,kd1]]:=by rw [W3.get (hr2 _ (.inl (by omega))),getO_tl (by omega),K2.hp.get (by omega),getO_hd]
  have T3:∀ Y,Tq ((N2+18,Y)::g3) t1 (.agg [.int .i64 t1.form,.int .i64 t1.n,.bool t1.hid,.str t1.name,lv1,kd1]) r1:=fun Y=>Tq.congr _ _ _ T1 (fun q hq=>by
    have:=K1.ge q hq
    rw [getO_tl (by omega),W3.get (hr2 _ (.inl (by omega))),getO_tl (by omega),K2.hp.get (by omega),getO_tl (by omega)])
  have eX:=fun m Y=>snap_ex (m:=m) (T3 Y) (by omega) z1 e1
  have y0':∀ Y,getO ((N1+4,Y)::g1) 0 = (Ob.row 6 [.agg [.int .i64 (t).form,.int .i64 (t).n,.bool (t).hid,.str (t).name,slD 2 encL (t).levels,slD 6 encT (t).kids]]):=fun Y=>by rw [getO_tl (by omega)]; exact y0
  have yN2:getO g2 0 = (Ob.row 6 [.agg [.int .i64 (t).form,.int .i64 (t).n,.bool (t).hid,.str (t).name,slD 2 encL (t).levels,slD 6 encT (t).kids]]):=by rw [K2.hp.get (by omega)]; exact y0' _
  have hE:decide (E=E)=true:=decide_eq_true rfl
  have gT3:∀ m,N2+19≤m→Gd m ((N2+18,(Ob.row 6 [.agg [.int .i64 (t3).form,.int .i64 (t3).n,.bool (t3).hid,.str (t3).name,slD 2 encL (t3).levels,slD 6 encT (t3).kids]]))::g3):=fun m hm=>by rw [gd_tm (by omega)]; exact gd3 m (by omega)
  rw [encT_eq] at cR
  rw [f3_eq]; unfold c3; rw [callFn_eq (by rfl)]
  simp (disch:=first|assumption|omega|(simp (disch:=first|assumption|omega) only [sB,reduceAdd,reduceLT,reduceLeDiff,reduceEqDiff,reduceMul,↓reduceIte,hG0,gd_tm,gd3];done)|fail) only [sA,↓reduceIte,reduceLT,reduceEqDiff,reduceAdd,reduceLeDiff,aliveL,hx,cL,e1c,e2c,e3c,cR,cS,cN,eX,z0,z17,zA,y0,y17,yN2,hE,F0,hG0,gd_tm,gd3]
  exact ⟨_,_,rfl⟩

set_option maxRecDepth 100000 in
theorem tli_lifted (os:Os) (started:os.Started) (H:Type) (enc:TypeId×Value→H) (F:Stop.Interp) :
    ReturnsInHanded {} Try.checked os 3 .any ((Rows.OpenSpec.upto Rows.termLiftsSpec).pre6 enc Try.prog Try.f3 Rows.termLiftsUptoRow.domain false) (((Rows.OpenSpec.upto Rows.termLiftsSpec).at F).post enc Try.prog Try.f3 false true false false):=by
  refine law_cond (K:=kL) (C:=Try.checked) (s:=Rows.OpenSpec.upto Rows.termLiftsSpec) (k:=Rows.uptoSmall) (tb:=4) rfl own started (by kernel_rfl) Try.func3
    (OpenSpec.witness (enc:=enc) (C:=Try.checked) (s:=Rows.OpenSpec.upto Rows.termLiftsSpec) (k:=Rows.uptoSmall) rfl false ⟨#[],#[.agg #[.int .i64 0,.int .i64 0,.bool false,.string ByteArray.empty,.slice none 0 0,.slice none 0 0],.int .i64 0,.int .i64 0],[]⟩ 8 (by kernel_rfl) (by kernel_rfl) (by kernel_rfl)
      (x := ([.agg [.lit (.int .i64 0),.lit (.int .i64 0),.lit (.bool false),.lit (.string []),.nil,.nil],.lit (.int .i64 0),.lit (.int .i64 0)],[],[])) (by kernel_rfl) rfl (by kernel_rfl))
    mixed laidOut rowed_maps full_slices (by kernel_rfl) rfl (by kernel_rfl) rfl rfl ?_ ?_
  · intro ds hl
    match ds,hl with
    | [_,_,_],_=>rfl
  · intro ds gs l hk hA
    have hA:ArgsAre Try.prog [25,3,3] ds l:=hA
    have hb:Rows.uptoBulkAll (ds++gs)≤1048576:=of_decide_eq_true hk
    obtain ⟨x,xs,f1,l1,rfl,rfl,h1,hA⟩:=args_cons hA
    obtain ⟨y,ys,f2,l2,rfl,rfl,h2,hA⟩:=args_cons hA
    obtain ⟨z,zs,f3,l3,rfl,rfl,h3,hA⟩:=args_cons hA
    obtain ⟨rfl,rfl⟩:=args_nil hA
    rw [List.cons_append,bulk_cons,List.cons_append,bulk_cons,List.cons_append,bulk_cons] at hb
    obtain ⟨a,e1,sa,wa⟩:=tmd_arg _ _ h1
    obtain ⟨i,e2,_⟩:=int_arg Try.underlying3 h2
    obtain ⟨j,e3,_⟩:=int_arg Try.underlying3 h3
    rw [e1,e2,e3,encT_eq]
    obtain ⟨w1,w2,w3⟩:=wa (by omega)
    exact tli_run a i j sa w1 w2 w3

theorem TermLiftsUpto_holds:Rows.TermLiftsUptoSaid :=
  OpenClaim.holds_of_cond 3 Try.f3 rfl rfl rfl rfl rfl rfl rfl ⟨rfl,rfl,rfl,rfl,rfl⟩ rfl rfl rfl rfl rfl (by kernel_rfl) Try.func3 (by kernel_rfl)
    (of_decide_eq_true (by kernel_rfl)) (by unfold Func.isWrapper; first | (rw [if_pos (by decide +kernel)]; kernel_rfl) | (rw [if_neg (by decide +kernel)]; exact ⟨rfl,rfl⟩))
    (fun os started H enc _ F=>tli_lifted os started H enc F)
end Go.Proofs.Ytdijijblccmfbaa
