/- The law's walk: one constructor. -/
import Derived.Test.YtpbpmpabndgeeaaEU
set_option linter.unusedSimpArgs false
set_option linter.unusedVariables false
namespace Go.Proofs.Ytpbpmpabndgeeaa
open Go
open Nat (reduceAdd reduceLT reduceLeDiff reduceEqDiff reduceMul)

theorem hp0 {n:Nat} {h:Hps} (hg:Gd n h):Hp 0 [] n h:=by
  refine ⟨Nat.zero_le _,hg,?_,leak_iff.2 fun p _ hp=>absurd hp (Nat.not_lt_zero _)⟩
  induction h with
  | nil=>rfl
  | cons a t ih =>
    obtain ⟨q,o⟩:=a
    rw [drop_new (Nat.zero_le _)]
    exact ih fun k hk => (good_cons.1 (hg k hk)).2.2
noncomputable def slc2 (n:Nat) (h:Hps) (k:Nat) (x u:D):Rd:=match x with
  | .sl k' es sp full=>ifR (Nat.beq k k') (natR (fun u=>slL n h k es sp full 0 u) u)
  | .ms k' r off len full=>ifR (Nat.beq k k') (natR (fun u=>slM n h k r off len full 0 u) u)
  | .nils=>natR (fun u=>slN n h 0 u) u
  | _ => .bad
theorem slice2_eq {n k:Nat} {h:Hps} {env:Tr} {x:D} {u:Opd}:sliceD n h k env x none (some u) none=slc2 n h k x (ev env u):=by cases x <;> rfl
theorem lowFG {T:Tm} {P k:Nat} {d:D} (hd:hasR k 19 d=false):lowO k (.row 17 [(D.agg [.int .i64 3,.str [68],.int .i64 0,.int .i64 (T).form,.int .i64 (T).n,.bool (T).hid,.str (T).name,slD 2 encL (T).levels,slD 6 encT (T).kids,.int .i64 0,.int .i64 0,.bool false,.str [],.nils,.nils,.int .i64 ((P):Nat),d])]):=lowO_one (low_agg fun x hx=>by
  have sl:∀ {α:Type} (enc:α→D) (q:Nat) (s:Sl α),hasR k 19 (slD q enc s)=false:=fun enc q s => (plain 16 flat_slD).hasR k
  simp only [List.mem_cons,List.mem_singleton,List.not_mem_nil] at hx
  rcases hx with rfl | rfl | rfl | rfl | rfl | rfl | rfl | rfl | rfl | rfl | rfl | rfl | rfl | rfl | rfl | rfl | rfl | hx <;> first | exact sl _ _ _ | rfl | exact hd | exact absurd hx id)
structure ES (P I pl rc b k:Nat) (dl:D) (n:Nat) (h:Hps):Prop where
  gd:Gd n h
  le:49≤b∧b < n
  y12:getO h 48 = (Ob.row 6 [.agg [.int .i64 (setT 0).form,.int .i64 (setT 0).n,.bool (setT 0).hid,.str (setT 0).name,slD 2 encL (setT 0).levels,slD 6 encT (setT 0).kids]])
  L:Bld 6 encT 49 (lT (P+I)) h dl
  lb:∀ r,dl = .ms 6 r 0 (P+I) false→r < b
  y15:∃ dC,getO h b = .row 17 [(D.agg [.int .i64 3,.str [68],.int .i64 0,.int .i64 (typT P I).form,.int .i64 (typT P I).n,.bool (typT P I).hid,.str (typT P I).name,slD 2 encL (typT P I).levels,slD 6 encT (typT P I).kids,.int .i64 0,.int .i64 0,.bool false,.str [],.nils,.nils,.int .i64 ((P):Nat),dC])]∧Bld 7 encC (b+1) (csT P I pl rc k) h dC
theorem sub_wrap {n m rr:Nat} {g:Hps} {l:List Tm} {t:Tm} (hg:Gd n g) (yr:getO g rr = .row 6 (l.map encT)) (hr:rr < n) (hl:l≠[]∧l.length≤1000000000) (hm:n≤m) :
    ∃ g1,subC (callX (cF Try.prog) (LX (cF Try.prog))) [rr] m g (.fn 6 [] []) [.int .i64 3,.ms 6 rr 0 l.length false,.nils,(D.agg [.int .i64 (t).form,.int .i64 (t).n,.bool (t).hid,.str (t).name,slD 2 encL (t).levels,slD 6 encT (t).kids])] = .ok (encT (pisT l t)) (m+1) g1 ∧ (∀ q,getO g1 q=getO g q)∧Gd n g1:=by
  have gS:Gd (m+1) (subH [rr] g):=fun k hk p hp=>by
    obtain ⟨h2,h3⟩:=mem_subH hp
    obtain ⟨y,o⟩:=p
    simp only at h2 h3
    subst h3
    rw [List.mem_singleton.1 h2]
    exact hg k (by omega) _ (getO_mem (by rw [yr]; simp))
  have B:Bld 6 encT 0 l (subH [rr] g) (.ms 6 rr 0 l.length false) := .inr ⟨rr,hl.1,Nat.zero_le _,rfl,by rw [getO_subH.1 (by simp)]; exact yr⟩
  obtain ⟨ad,S⟩:=B.sv (gS (m+1) (Nat.le_refl _)) encA
  obtain ⟨g1,e1,e2,e3⟩:=sub_read (call:=callX (cF Try.prog) (LX (cF Try.prog))) (S:=[rr]) (m:=m) (h:=g) (f := .fn 6 [] []) (d:=encT (pisT l t)) (args:=[.int .i64 3,.ms 6 rr 0 l.length false,.nils,(D.agg [.int .i64 (t).form,.int .i64 (t).n,.bool (t).hid,.str (t).name,slD 2 encL (t).levels,slD 6 encT (t).kids])]) (n1:=m+1)
    (fun q hq=>by rw [List.mem_singleton.1 hq]; omega) (fun q hq=>by rw [List.mem_singleton.1 hq,yr]; exact inTs) rfl
    (by rw [allL_eq,List.all_cons,List.all_cons,List.all_cons,List.all_cons,List.all_nil,← encT_eq,inT]; rw [show inD (fun r=>memN r [rr]) 20 (.ms 6 rr 0 l.length false)=memN rr [rr] from rfl,memN_mem (by simp)]; rfl) inT
    (fun q hq=>by rw [List.mem_singleton.1 hq,yr]; exact inTs) (by rw [callX_fn]; exact qWrap t hl.2 (m+1) _ gS S)
  exact ⟨g1,e1,e2,fun k hk=>e3 k (hg k hk) (fun q hq=>by rw [List.mem_singleton.1 hq]; omega)⟩
theorem reach_wr {g:Hps} {rr:Nat} {l:List Tm} {t:Tm} {j:Nat} {c:D} {x:Int} (yr:getO g rr = .row 6 (l.map encT)) (hc:rd 20 c=[]):reachC g [.int .i64 x,.ms 6 rr 0 j false,.nils,(D.agg [.int .i64 (t).form,.int .i64 (t).n,.bool (t).hid,.str (t).name,slD 2 encL (t).levels,slD 6 encT (t).kids])] c=[rr]:=by
  have e:rd 20 (D.agg [.int .i64 (t).form,.int .i64 (t).n,.bool (t).hid,.str (t).name,slD 2 encL (t).levels,slD 6 encT (t).kids])=[]:=by simp only [rfL_cons,rfL_nil,rd_agg,rd_int,rd_str,rd_bool,rd_slD,appN_nil]
  show reach g 4096 (appN (appN [] (appN [rr] (appN [] (appN (rd 20 (D.agg [.int .i64 (t).form,.int .i64 (t).n,.bool (t).hid,.str (t).name,slD 2 encL (t).levels,slD 6 encT (t).kids])) [])))) (rd 20 c)) []=_
  rw [hc,e]
  show reach g (4094+1+1) [rr] []=_
  rw [reach_go rfl,yr,rdTs]
  rfl
set_option maxRecDepth 10000 in
set_option maxHeartbeats 16000000 in
theorem eBody {P I C pl rc b k n:Nat} {dl:D} {e:Tr} {h:Hps} (S:ES P I pl rc b k dl n h) (hk:k < C) (hP:P≤5) (hI:I≤5) (hC:C≤6) (hp:pl≤5) (hrc:rc≤5)
    (g0:get (po 0) e = .int .i64 (P:Nat)) (g1:get (po 1) e = .int .i64 (I:Nat)) (g2:get (po 2) e = .int .i64 (C:Nat)) (g3:get (po 3) e = .int .i64 (pl:Nat)) (g4:get (po 4) e = .int .i64 (rc:Nat)) (g12:get (po 12) e = .ptr 48 0 0) (g13:get (po 13) e=dl) (g15:get (po 15) e = .ptr b 0 0) (g16:get (po 16) e = .int .i64 (k:Nat)) :
    ∃ e2 n2 h2,LX (cF Try.prog) l3_3 e n h = .ok .normal e2 n2 h2∧ES P I pl rc b (k+1) dl n2 h2∧n≤n2 ∧
      get (po 0) e2 = .int .i64 (P:Nat)∧get (po 1) e2 = .int .i64 (I:Nat)∧get (po 2) e2 = .int .i64 (C:Nat)∧get (po 3) e2 = .int .i64 (pl:Nat)∧get (po 4) e2 = .int .i64 (rc:Nat)∧get (po 12) e2 = .ptr 48 0 0∧get (po 13) e2=dl∧get (po 15) e2 = .ptr b 0 0∧get (po 16) e2 = .int .i64 ((k+1:Nat):Int):=by
  obtain ⟨hb1,hb2⟩:=S.le
  have hgn:=S.gd n (Nat.le_refl _)
  -- the parameters are taken over
  obtain ⟨dq,o1,sl,vw⟩:∃ dq,(∀ m g,okD m g dq = .ok dq m g) ∧ (∀ m g,slc2 m g 6 dl (.int .i64 (P:Nat)) = .ok dq m g)∧view 6 h dq = .ok 6 ((lT P).map encT):=by
    rcases S.L with ⟨e1,rfl⟩ | ⟨r,_,_,rfl,e2⟩
    · have:P=0:=by have:=congrArg List.length e1; rw [lT_len] at this; simp at this; omega
      subst this
      exact ⟨.nils,fun _ _=>rfl,fun _ _=>rfl,rfl⟩
    · refine ⟨.ms 6 r 0 P false,fun _ _=>rfl,fun m g=>?_,?_⟩
      · rw [lT_len]
        show ifR (Bool.and (Nat.ble 0 P) (Bool.and (Nat.ble P (P+I)) (Bool.or true (Nat.beq P (P+I))))) (.ok (.ms 6 r (0+0) (P - 0) false) m g)=_
        rw [ble_iff,ble_iff,decide_eq_true (Nat.zero_le _),decide_eq_true (Nat.le_add_right _ _)]
        rfl
      · show viewR 0 P (getO h r)=_
        rw [e2]
        show Bool.rec (motive:=fun _=>VL) .bad (.ok 6 (takeL P (dropL 0 ((lT (P+I)).map encT)))) (Nat.ble (0+P) (lenL ((lT (P+I)).map encT)))=_
        rw [lenL_eq,List.length_map,lT_len,Nat.zero_add,ble_iff,decide_eq_true (Nat.le_add_right _ _),takeL_eq,dropL_eq,List.drop_zero,← List.map_take]
        show VL.ok 6 (((lT (P+I)).take P).map encT)=_
        rw [show (lT (P+I)).take P=lT P by unfold lT; rw [List.take_replicate,Nat.min_eq_left (by omega)]]
  have B0:Bld 6 encT n [] h .nils := .inl ⟨rfl,rfl⟩
  obtain ⟨D0,H0,A⟩:=app_bldx (b:=88) B0 (Hp.start S.gd) (Nat.le_refl _) (Nat.le_refl _) (fun m x=>low_flat (flatT x)) (lT P) (by have:=lT_len P; simp; omega)
  have A1:=fun m hm => (A m hm).1
  have A2:∀ m,n≤m→Ytpbpmpabndgeeaa.okD m (H0 m) (D0 m) = .ok (D0 m) m (H0 m):=fun m hm => (A m hm).2.1.okD m (H0 m)
  unfold l3_3
  have A3:∀ m g,n≤m→Ytpbpmpabndgeeaa.okD m g (D0 m) = .ok (D0 m) m g:=fun m g hm => (A m hm).2.1.okD m g
  simp (disch:=first|assumption|omega|(simp (disch:=first|assumption|omega) only [sB,reduceAdd,reduceLT,reduceLeDiff,reduceEqDiff,reduceMul,↓reduceIte];done)|fail) only [sA,↓reduceIte,reduceLT,reduceEqDiff,reduceAdd,reduceLeDiff,g0,g1,g2,g13,g16,slice2_eq,sl,o1,vw,A1,A3]
  have HA:Hp n h (n+9) (H0 (n+6)) := ((A (n+6) (by omega)).2.2.1).mono (by omega)
  have BA:Bld 6 encT n (lT P) (H0 (n+6)) (D0 (n+6)) := (A (n+6) (by omega)).2.1
  have zA:getO (H0 (n+6)) 48 = (Ob.row 6 [.agg [.int .i64 (setT 0).form,.int .i64 (setT 0).n,.bool (setT 0).hid,.str (setT 0).name,slD 2 encL (setT 0).levels,slD 6 encT (setT 0).kids]]):=by rw [HA.get (by omega)]; exact S.y12
  generalize H0 (n+6)=hA at HA BA zA
  generalize D0 (n+6)=dA at HA BA zA
  generalize hr:LX (cF Try.prog) (.loop l3_1) _ _ _=r0
  obtain ⟨e3,n3,h3,d3,rfl,H3,p3,B3,a0,a1,a2,a3,a4,a12,a17,a13,a15,a16⟩:=eL1 (P:=P) (I:=I) (C:=C) (pl:=pl) (rc:=rc) (fun k hk=>HA.good k hk) BA (by omega) (by rw [lT_len]; omega) zA hp HA (by simp +decide only [sG,g0]) (by simp +decide only [sG,g1]) (by simp +decide only [sG,g2]) (by simp +decide only [sG,g3]) (by simp +decide only [sG,g4]) (by simp +decide only [sG,g12]) (by simp +decide only [sG]) (by simp +decide only [sG]) (dl:=dl) (d15 := .ptr b 0 0) (k:=k) (by simp +decide only [sG,g13]) (by simp +decide only [sG,g15]) (by simp +decide only [sG,g16]) hr
  simp (disch:=first|assumption|omega|(simp (disch:=first|assumption|omega) only [sB,reduceAdd,reduceLT,reduceLeDiff,reduceEqDiff,reduceMul,↓reduceIte];done)|fail) only [sA,↓reduceIte,reduceLT,reduceEqDiff,reduceAdd,reduceLeDiff]
  generalize hr:LX (cF Try.prog) (.loop l3_2) _ _ _=r0
  obtain ⟨e4,n4,h4,d4,rfl,H4,p4,B4,a0,a1,a2,a3,a4,a12,a17,a13,a15,a16⟩:=eL2 (P:=P) (I:=I) (C:=C) (pl:=pl) (rc:=rc) B3 (by omega) (by rw [List.length_append,lT_len,lT_len]; omega) hP hI hp hrc (H3.mono (show n3≤n3+1 by omega)) (by simp +decide only [sG,a0]) (by simp +decide only [sG,a1]) (by simp +decide only [sG,a2]) (by simp +decide only [sG,a3]) (by simp +decide only [sG,a4]) (by simp +decide only [sG,a12]) (by simp +decide only [sG,a17]) (by simp +decide only [sG]) (dl:=dl) (d15 := .ptr b 0 0) (k:=k) (by simp +decide only [sG,a13]) (by simp +decide only [sG,a15]) (by simp +decide only [sG,a16]) hr
  clear hr
  replace B4:Bld 6 encT n (arT P I pl rc) h4 d4:=B4
  obtain ⟨dC,yb,Bc⟩:=S.y15
  have y4:getO h4 b = .row 17 [(D.agg [.int .i64 3,.str [68],.int .i64 0,.int .i64 (typT P I).form,.int .i64 (typT P I).n,.bool (typT P I).hid,.str (typT P I).name,slD 2 encL (typT P I).levels,slD 6 encT (typT P I).kids,.int .i64 0,.int .i64 0,.bool false,.str [],.nils,.nils,.int .i64 ((P):Nat),dC])]:=by rw [H4.get hb2]; exact yb
  have keep4:∀ x,x < n→getO h4 x=getO h x:=fun x hx=>H4.get hx
  have Bc4:Bld 7 encC (b+1) (csT P I pl rc k) h4 dC:=Bc.keep fun r e=>keep4 r (by
    rcases Bc with ⟨_,e2⟩ | ⟨r2,_,_,e2,g⟩
    · rw [e2] at e; cases e
    · rw [e2] at e; injection e with _ e _ _ _; subst e; exact getO_low hgn (by rw [g]; simp))
  have c1:∀ m h,Gd m h→callFn (LX (cF Try.prog)) m h [.int .i64 (k:Nat)] (cF Try.prog 8) = .ok (.str [48+k]) m h:=fun m h hg=>qDig1 hg (by omega)
  have s1:binD .add (.str [99]) (.str [48+k]) = .str [99,48+k]:=str_add (by simp)
  have c2:∀ m h,Gd m h→callFn (LX (cF Try.prog)) m h [.int .i64 (P:Nat),.int .i64 ((pl+rc:Nat):Int),.int .i64 (I:Nat)] (cF Try.prog 7) = .ok (encT (atT P ((pl+rc:Nat):Int) I)) m h:=fun m h hg=>qAt P _ I (by omega) m h hg
  have lA : (arT P I pl rc).length≤100:=by unfold arT; rw [List.length_append,List.length_append,lT_len,lT_len,recT_len]; omega
  have hT:pisT (arT P I pl rc) (atT P ((pl+rc:Nat):Int) I)=ctT P I pl rc:=rfl
  generalize atT P ((pl+rc:Nat):Int) I=AT at c2 hT
  have hG4:∀ m,n4≤m→Gd m h4:=fun m hm k hk=>H4.good k (by omega)
  rw [encT_eq] at c2
  have okB:=B4.okD
  have okC:=Bc4.okD
  have csl : (csT P I pl rc k).length=k:=csT_len
  have eC:encC ([99,48+k],ctT P I pl rc) = .agg [.str [99,48+k],.int .i64 (ctT P I pl rc).form,.int .i64 (ctT P I pl rc).n,.bool (ctT P I pl rc).hid,.str (ctT P I pl rc).name,slD 2 encL (ctT P I pl rc).levels,slD 6 encT (ctT P I pl rc).kids]:=rfl
  have lowC:∀ m (x:List Nat×Tm),low m (encC x):=fun m x=>low_flat (by rw [encC_eq,flat_agg]; simp [flat1_slD,flat1_int,flat1_str,show flat1 (.bool x.2.hid)=true from rfl])
  have eS:csT P I pl rc (k+1)=csT P I pl rc k++[([99,48+k],ctT P I pl rc)]:=csT_succ
  have fin:∀ g,Gd n4 g → (∀ q,getO g q=getO h4 q)→∃ (D':Nat→D) (H':Nat→Hps),(∀ m,n4≤m→appD m g 7 104 dC (.ok 7 [.agg [.str [99,48+k],.int .i64 (ctT P I pl rc).form,.int .i64 (ctT P I pl rc).n,.bool (ctT P I pl rc).hid,.str (ctT P I pl rc).name,slD 2 encL (ctT P I pl rc).levels,slD 6 encT (ctT P I pl rc).kids]]) = .ok (D' m) m (H' m)) ∧
      (∀ m,n4≤m→getO (H' m) b = .row 17 [(D.agg [.int .i64 3,.str [68],.int .i64 0,.int .i64 (typT P I).form,.int .i64 (typT P I).n,.bool (typT P I).hid,.str (typT P I).name,slD 2 encL (typT P I).levels,slD 6 encT (typT P I).kids,.int .i64 0,.int .i64 0,.bool false,.str [],.nils,.nils,.int .i64 ((P):Nat),dC])]) ∧ (∀ m m' g,n4≤m→Ytpbpmpabndgeeaa.okD m' g (D' m) = .ok (D' m) m' g) ∧ (∀ m m2 g,n4≤m→storeR false 1 b 0 16 (D' m) m2 g (.row 17 [(D.agg [.int .i64 3,.str [68],.int .i64 0,.int .i64 (typT P I).form,.int .i64 (typT P I).n,.bool (typT P I).hid,.str (typT P I).name,slD 2 encL (typT P I).levels,slD 6 encT (typT P I).kids,.int .i64 0,.int .i64 0,.bool false,.str [],.nils,.nils,.int .i64 ((P):Nat),dC])]) = .ok .junk m2 (setO g b (.row 17 [(D.agg [.int .i64 3,.str [68],.int .i64 0,.int .i64 (typT P I).form,.int .i64 (typT P I).n,.bool (typT P I).hid,.str (typT P I).name,slD 2 encL (typT P I).levels,slD 6 encT (typT P I).kids,.int .i64 0,.int .i64 0,.bool false,.str [],.nils,.nils,.int .i64 ((P):Nat),D' m])]))) ∧
      ∀ m m2,n4≤m→m < m2→ES P I pl rc b (k+1) dl m2 (setO (H' m) b (.row 17 [(D.agg [.int .i64 3,.str [68],.int .i64 0,.int .i64 (typT P I).form,.int .i64 (typT P I).n,.bool (typT P I).hid,.str (typT P I).name,slD 2 encL (typT P I).levels,slD 6 encT (typT P I).kids,.int .i64 0,.int .i64 0,.bool false,.str [],.nils,.nils,.int .i64 ((P):Nat),D' m])])):=by
    intro g gg gk
    have Bg:Bld 7 encC (b+1) (csT P I pl rc k) g dC:=Bc4.keep fun r _=>gk r
    obtain ⟨D',H',A⟩:=app_bldx (b:=104) Bg (hp0 gg) (Nat.zero_le _) (by omega) lowC [([99,48+k],ctT P I pl rc)] (by rw [csl]; simp; omega)
    have ky:∀ m,n4≤m→∀ x,x≤b→getO (H' m) x=getO h x:=fun m hm x hx=>by rw [(A m hm).2.2.2.1 x (by omega),gk,keep4 x (by omega)]
    have yB:∀ m,n4≤m→getO (H' m) b = .row 17 [(D.agg [.int .i64 3,.str [68],.int .i64 0,.int .i64 (typT P I).form,.int .i64 (typT P I).n,.bool (typT P I).hid,.str (typT P I).name,slD 2 encL (typT P I).levels,slD 6 encT (typT P I).kids,.int .i64 0,.int .i64 0,.bool false,.str [],.nils,.nils,.int .i64 ((P):Nat),dC])]:=fun m hm=>by rw [ky m hm b (Nat.le_refl _)]; exact yb
    refine ⟨D',H',fun m hm => (A m hm).1,yB,fun m m' g hm => (A m hm).2.1.okD m' g,fun m m2 g hm=>?_,fun m m2 hm hm2=>?_⟩
    · have o:one (D' m)=true:=by
        rcases (A m hm).2.1 with ⟨e,_⟩ | ⟨r,_,_,e,_⟩
        · simp at e
        · rw [e]; rfl
      exact storeR_boxc (j:=16) (by simp) o
    · have ne:getO (H' m) b ≠ .none:=by rw [yB m hm]; simp
      have BN := (A m hm).2.1
      have HN := (A m hm).2.2.1
      refine ⟨fun j hj=>good_set (HN.good j (by omega)) (lowFG ?_),⟨hb1,by omega⟩,?_,S.L.keep fun r e=>?_,S.lb,D' m,getO_setO_same ne,?_⟩
      · rcases BN with ⟨e,_⟩ | ⟨r,_,_,e,g⟩
        · simp at e
        · rw [e]
          exact ble_f (by have:=getO_low (HN.good (m+1) (Nat.le_refl _)) (r:=r) (by rw [g]; simp); omega)
      · rw [getO_setO _ _ _ _ ne,if_neg (by omega),ky m hm 48 (by omega)]; exact S.y12
      · have:=S.lb r (by rw [e,lT_len])
        rw [getO_setO _ _ _ _ ne,if_neg (by omega),ky m hm r (by omega)]
      · rw [eS]
        refine BN.keep fun r e=>?_
        rcases BN with ⟨e2,_⟩ | ⟨r2,_,h2,e2,_⟩
        · simp at e2
        · rw [e2] at e; injection e with _ e _ _ _; subst e
          rw [getO_setO _ _ _ _ ne,if_neg (by omega)]
  generalize typT P I=TY at *
  rcases B4 with ⟨e4,rfl⟩ | ⟨r4,ne4,n4r,rfl,z4⟩
  · rw [e4] at hT
    have c3:∀ m h,Gd m h→callFn (LX (cF Try.prog)) m h [.int .i64 3,.nils,.nils,(D.agg [.int .i64 (AT).form,.int .i64 (AT).n,.bool (AT).hid,.str (AT).name,slD 2 encL (AT).levels,slD 6 encT (AT).kids])] (cF Try.prog 6) = .ok (encT (ctT P I pl rc)) m h:=fun m h hg=>by
      have:=qWrap AT (l:=[]) (by simp) m h hg (Sv.slD (s:=Sl.app []) encA)
      rw [hT] at this
      exact this
    obtain ⟨D',H',f1,f2,f3,f4,f5⟩:=fin h4 (fun k hk=>H4.good k hk) (fun _=>rfl)
    generalize ctT P I pl rc=CT at c3 f1 eC
    rw [encT_eq] at c3
    simp (disch:=first|assumption|omega|(simp (disch:=first|assumption|omega) only [sB,reduceAdd,reduceLT,reduceLeDiff,reduceEqDiff,reduceMul,↓reduceIte,hG4,gd_nil];done)|fail) only [sA,↓reduceIte,reduceLT,reduceEqDiff,reduceAdd,reduceLeDiff,a0,a1,a3,a4,a15,a16,a17,y4,c1,c2,c3,s1,okC,f1,f2,f3,f4,keys_gd,hG4,gd_nil]
    exact ⟨_,_,_,rfl,f5 _ _ (by omega) (by omega),by omega,by simp +decide only [sG,a0],by simp +decide only [sG,a1],by simp +decide only [sG,a2],by simp +decide only [sG,a3],by simp +decide only [sG,a4],by simp +decide only [sG,a12],by simp +decide only [sG,a13],by simp +decide only [sG,a15],by simp +decide only [sG]⟩
  · obtain ⟨g1',w1,w2,w3⟩:=sub_wrap (m:=n4+13194139533312) (t:=AT) (fun k hk=>H4.good k hk) z4 (getO_low (H4.good n4 (Nat.le_refl _)) (by rw [z4]; simp)) ⟨ne4,by omega⟩ (by omega)
    rw [hT] at w1
    have rW:reachC h4 [.int .i64 3,.ms 6 r4 0 (arT P I pl rc).length false,.nils,(D.agg [.int .i64 (AT).form,.int .i64 (AT).n,.bool (AT).hid,.str (AT).name,slD 2 encL (AT).levels,slD 6 encT (AT).kids])] (.fn 6 [] [])=[r4]:=reach_wr z4 rfl
    obtain ⟨D',H',f1,f2,f3,f4,f5⟩:=fin g1' w3 w2
    generalize ctT P I pl rc=CT at w1 f1 eC
    rw [encT_eq] at w1
    have kg:∀ k,n4≤k→keysFrom k g1'=[]:=fun k hk=>keys_low (w3 k hk)
    have eR:appN [r4] []=[r4]:=rfl
    have dR:disj [r4] [b]=true := (disj_eq _ _).2 (fun y hy hy2=>by
      have e:=List.mem_singleton.1 hy2
      have:=List.mem_singleton.1 hy
      omega)
    have dW:disj (changed h4 g1' [r4]) [b]=true := (disj_eq _ _).2 (fun y hy hy2=>by
      have e:=List.mem_singleton.1 hy2
      have:=List.mem_singleton.1 (changed_mem.1 hy)
      omega)
    simp (disch:=first|assumption|omega|(simp (disch:=first|assumption|omega) only [sB,reduceAdd,reduceLT,reduceLeDiff,reduceEqDiff,reduceMul,↓reduceIte,hG4,gd_nil];done)|fail) only [sA,↓reduceIte,reduceLT,reduceEqDiff,reduceAdd,reduceLeDiff,a0,a1,a3,a4,a15,a16,a17,y4,c1,c2,s1,okC,writR_call,apartR_cons,apartC_cons,dW,rW,w1,eR,dR,kg,f1,f2,f3,f4,keys_gd,hG4,gd_nil]
    exact ⟨_,_,_,rfl,f5 _ _ (by omega) (by omega),by omega,by simp +decide only [sG,a0],by simp +decide only [sG,a1],by simp +decide only [sG,a2],by simp +decide only [sG,a3],by simp +decide only [sG,a4],by simp +decide only [sG,a12],by simp +decide only [sG,a13],by simp +decide only [sG,a15],by simp +decide only [sG]⟩
end Go.Proofs.Ytpbpmpabndgeeaa
