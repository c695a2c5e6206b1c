/- The program's check of a term. No condition but lengths. -/
import Derived.Test.YtpbpmpabndgeeaaTG

/- The program's check of a term: its forms. No condition but lengths. -/
set_option linter.unusedSimpArgs false
set_option linter.unusedVariables false
namespace Go.Proofs.Ytpbpmpabndgeeaa
open Go
open Nat (reduceAdd reduceLT reduceLeDiff reduceEqDiff reduceMul)

set_option maxHeartbeats 4000000 in
theorem pLevels (s:Sl SLev) (hl:s.el.length≤9223372036854775807) (n:Nat) (h:Hps) (hg:Gd n h):callFn (LX (cF Try.prog)) n h [slD 2 encL s] (cF Try.prog 85) = .ok (.bool (s.el.all fun l=>l.lev.canon)) n h:=by
  have hgn:=hg n (Nat.le_refl _)
  rw [f85_eq]; unfold c85; rw [callFn_eq (by rfl)]
  simp (disch:=first|assumption|omega|(simp (disch:=first|assumption|omega) only [sB,reduceAdd,reduceLT,reduceLeDiff,reduceEqDiff,reduceMul,↓reduceIte];done)|fail) only [sA,↓reduceIte,reduceLT,reduceEqDiff,reduceAdd,reduceLeDiff]
  generalize hr:LX (cF Try.prog) (.loop l85_0) _ _ _=r
  obtain ⟨x,e2,n2,h2,rfl,H2,q⟩:=loop_up hr s.el.length
    (fun i e n' h'=>Hp n h n' h' ∧ ((s.el.drop i).all fun l=>l.lev.canon) = (s.el.all fun l=>l.lev.canon)∧get (po 5) e=slD 2 encL s∧get (po 6) e = .int .i64 (s.el.length:Nat)∧get (po 7) e = .int .i64 (i:Nat))
    (fun x e n' h'=>Hp n h n' h' ∧ ((x = .exit 0 ∧ (s.el.all fun l=>l.lev.canon)=true) ∨ (x = .ret ∧ (s.el.all fun l=>l.lev.canon)=false∧get (po 2) e = .bool false)))
    (by
      rintro e n' h' ⟨H,ha,g5,g6,g7⟩
      rw [List.drop_length] at ha
      unfold l85_0
      simp (disch:=first|assumption|omega|(simp (disch:=first|assumption|omega) only [sB,reduceAdd,reduceLT,reduceLeDiff,reduceEqDiff,reduceMul,↓reduceIte];done)|fail) only [sA,↓reduceIte,reduceLT,reduceEqDiff,reduceAdd,reduceLeDiff,g5,g6,g7]
      exact ⟨_,_,_,_,rfl,by simp,H.mono (by omega),.inl ⟨rfl,ha.symm⟩⟩)
    (by
      rintro i e n' h' hi ⟨H,ha,g5,g6,g7⟩
      rw [List.drop_eq_getElem_cons hi,List.all_cons] at ha
      have hG:∀ m,n'≤m→Gd m h':=fun m hm=>H.good' hm
      generalize hW:s.el[i]=W at ha
      obtain ⟨an,av⟩:=W
      have c1:∀ m h,Gd m h→callFn (LX (cF Try.prog)) m h [(D.agg [.int .i64 (an),slD 2 encV (av)])] (cF Try.prog 93) = .ok (.bool (Lev.canon ⟨an,av.el⟩)) m h:=fun m h hg=>pCanon m h hg an av
      replace ha : (Lev.canon ⟨an,av.el⟩ && (s.el.drop (i+1)).all fun l=>l.lev.canon) = (s.el.all fun l=>l.lev.canon):=ha
      unfold l85_0
      have HB:=fun r (hr:n'≤r)=>H.box (k:=2) (r:=r) (m:=r+1) (by omega) (by omega) (flatL ⟨an,av⟩)
      cases hc:Lev.canon ⟨an,av.el⟩ with
      | true =>
        rw [hc] at c1
        rw [hc,Bool.true_and] at ha
        simp (disch:=first|assumption|omega|(simp (disch:=first|assumption|omega) only [sB,reduceAdd,reduceLT,reduceLeDiff,reduceEqDiff,reduceMul,↓reduceIte,hG,gd_lev];done)|fail) only [sA,↓reduceIte,reduceLT,reduceEqDiff,reduceAdd,reduceLeDiff,g5,g6,g7,hW,encL,c1,hG,gd_lev]
        exact ⟨_,_,_,_,rfl,.inl ⟨rfl,(HB (n'+3) (by omega)).mono (by omega),ha,by simp +decide only [sG,g5],by simp +decide only [sG,g6],by simp +decide only [sG]⟩⟩
      | false =>
        rw [hc] at c1
        rw [hc,Bool.false_and] at ha
        simp (disch:=first|assumption|omega|(simp (disch:=first|assumption|omega) only [sB,reduceAdd,reduceLT,reduceLeDiff,reduceEqDiff,reduceMul,↓reduceIte,hG,gd_lev];done)|fail) only [sA,↓reduceIte,reduceLT,reduceEqDiff,reduceAdd,reduceLeDiff,g5,g6,g7,hW,encL,c1,hG,gd_lev]
        exact ⟨_,_,_,_,rfl,.inr ⟨by simp,(HB (n'+3) (by omega)).mono (by omega),.inr ⟨rfl,ha.symm,by simp +decide only [sG]⟩⟩⟩)
    ⟨(Hp.start hg).mono (by omega),rfl,by simp +decide only [sG],by simp +decide only [sG],by simp (disch:=first|assumption|omega|(simp (disch:=first|assumption|omega) only [sB,reduceAdd,reduceLT,reduceLeDiff,reduceEqDiff,reduceMul,↓reduceIte];done)|fail) only [sA,↓reduceIte,reduceLT,reduceEqDiff,reduceAdd,reduceLeDiff]⟩
  rcases q with ⟨rfl,hb⟩ | ⟨rfl,hb,g2⟩
  · rw [hb]
    simp (disch:=first|assumption|omega|(simp (disch:=first|assumption|omega) only [sB,reduceAdd,reduceLT,reduceLeDiff,reduceEqDiff,reduceMul,↓reduceIte];done)|fail) only [sA,↓reduceIte,reduceLT,reduceEqDiff,reduceAdd,reduceLeDiff,finish_flat (d := .bool true) rfl (H2.mono (show n2≤n2+1 by omega))]
  · rw [hb]
    simp (disch:=first|assumption|omega|(simp (disch:=first|assumption|omega) only [sB,reduceAdd,reduceLT,reduceLeDiff,reduceEqDiff,reduceMul,↓reduceIte];done)|fail) only [sA,↓reduceIte,reduceLT,reduceEqDiff,reduceAdd,reduceLeDiff,g2,finish_flat (d := .bool false) rfl H2]
theorem pParts (t:Tm) (n:Nat) (h:Hps) (hg:Gd n h):callFn (LX (cF Try.prog)) n h [(D.agg [.int .i64 (t).form,.int .i64 (t).n,.bool (t).hid,.str (t).name,slD 2 encL (t).levels,slD 6 encT (t).kids])] (cF Try.prog 67) = .ok (slD 6 encT t.kids.tight) n h:=by
  have hgn:=hg n (Nat.le_refl _)
  rw [f67_eq]; unfold c67; rw [callFn_eq (by rfl)]
  simp (disch:=first|assumption|omega|(simp (disch:=first|assumption|omega) only [sB,reduceAdd,reduceLT,reduceLeDiff,reduceEqDiff,reduceMul,↓reduceIte];done)|fail) only [sA,↓reduceIte,reduceLT,reduceEqDiff,reduceAdd,reduceLeDiff,slice3_eq,slc3_slD]

set_option maxHeartbeats 8000000 in
theorem pFormed (t:Tm) (hl:t.levels.el.length≤9223372036854775807) (n:Nat) (h:Hps) (hg:Gd n h):callFn (LX (cF Try.prog)) n h [(D.agg [.int .i64 (t).form,.int .i64 (t).n,.bool (t).hid,.str (t).name,slD 2 encL (t).levels,slD 6 encT (t).kids])] (cF Try.prog 68) = .ok (.bool (partOk t.abs)) n h:=by
  have hgn:=hg n (Nat.le_refl _)
  have hG:∀ m,n≤m→Gd m h:=fun m hm=>Gd.mono hg hm
  have ck:=fun m h hg=>pKids m h hg t.form
  have cl:∀ m h,Gd m h→callFn (LX (cF Try.prog)) m h [slD 2 encL t.levels] (cF Try.prog 85) = .ok (.bool (t.levels.el.all fun l=>l.lev.canon)) m h:=fun m h hg=>pLevels t.levels hl m h hg
  have H0:Hp n h (n+1) ((n,(Ob.row 6 [.agg [.int .i64 (t).form,.int .i64 (t).n,.bool (t).hid,.str (t).name,slD 2 encL (t).levels,slD 6 encT (t).kids]]))::h) := (Hp.start hg).box (r:=n) (m:=n+1) (Nat.le_refl _) (by omega) (flatTA t)
  have hGb:∀ m,n+1≤m→Gd m ((n,(Ob.row 6 [.agg [.int .i64 (t).form,.int .i64 (t).n,.bool (t).hid,.str (t).name,slD 2 encL (t).levels,slD 6 encT (t).kids]]))::h):=fun m hm=>H0.good' hm
  have hky:∀ m,n+1≤m→keysFrom m ((n,(Ob.row 6 [.agg [.int .i64 (t).form,.int .i64 (t).n,.bool (t).hid,.str (t).name,slD 2 encL (t).levels,slD 6 encT (t).kids]]))::h)=[]:=fun m hm=>keys_gd (hGb m hm)
  rw [part_tm]
  generalize (t.levels.el.all fun l=>l.lev.canon)=L at cl ⊢
  generalize hf:t.form=f at *
  rw [f68_eq]; unfold c68; rw [callFn_eq (by rfl)]
  by_cases y0:kidsN f = (t.kids.el.length:Int)
  case neg =>
    rw [decide_eq_false y0,Bool.false_and]
    simp (disch:=first|assumption|omega|(simp (disch:=first|assumption|omega) only [sB,reduceAdd,reduceLT,reduceLeDiff,reduceEqDiff,reduceMul,↓reduceIte,hGb,gd_nil];done)|fail) only [sA,↓reduceIte,reduceLT,reduceEqDiff,reduceAdd,reduceLeDiff,ck,hky,y0,hGb,gd_nil]
  rw [decide_eq_true y0,Bool.true_and]
  rw [y0] at ck
  by_cases f1:f=1
  · subst f1
    rw [if_pos (Or.inl rfl)]
    by_cases y3:t.n ≥ 0
    · by_cases y4:t.n≤1073741824
      · rw [decide_eq_true ⟨y3,y4⟩]
        simp (disch:=first|assumption|omega|(simp (disch:=first|assumption|omega) only [sB,reduceAdd,reduceLT,reduceLeDiff,reduceEqDiff,reduceMul,↓reduceIte,hGb,gd_nil];done)|fail) only [sA,↓reduceIte,reduceLT,reduceEqDiff,reduceAdd,reduceLeDiff,ck,hky,y3,y4,hGb,gd_nil]
      · rw [decide_eq_false (fun e=>y4 e.2)]
        simp (disch:=first|assumption|omega|(simp (disch:=first|assumption|omega) only [sB,reduceAdd,reduceLT,reduceLeDiff,reduceEqDiff,reduceMul,↓reduceIte,hGb,gd_nil];done)|fail) only [sA,↓reduceIte,reduceLT,reduceEqDiff,reduceAdd,reduceLeDiff,ck,hky,y3,y4,hGb,gd_nil]
    · rw [decide_eq_false (fun e=>y3 e.1)]
      simp (disch:=first|assumption|omega|(simp (disch:=first|assumption|omega) only [sB,reduceAdd,reduceLT,reduceLeDiff,reduceEqDiff,reduceMul,↓reduceIte,hGb,gd_nil];done)|fail) only [sA,↓reduceIte,reduceLT,reduceEqDiff,reduceAdd,reduceLeDiff,ck,hky,y3,hGb,gd_nil]
  by_cases f11:f=11
  · subst f11
    rw [if_pos (Or.inr rfl)]
    by_cases y3:t.n ≥ 0
    · by_cases y4:t.n≤1073741824
      · rw [decide_eq_true ⟨y3,y4⟩]
        simp (disch:=first|assumption|omega|(simp (disch:=first|assumption|omega) only [sB,reduceAdd,reduceLT,reduceLeDiff,reduceEqDiff,reduceMul,↓reduceIte,hGb,gd_nil];done)|fail) only [sA,↓reduceIte,reduceLT,reduceEqDiff,reduceAdd,reduceLeDiff,ck,hky,y3,y4,hGb,gd_nil]
      · rw [decide_eq_false (fun e=>y4 e.2)]
        simp (disch:=first|assumption|omega|(simp (disch:=first|assumption|omega) only [sB,reduceAdd,reduceLT,reduceLeDiff,reduceEqDiff,reduceMul,↓reduceIte,hGb,gd_nil];done)|fail) only [sA,↓reduceIte,reduceLT,reduceEqDiff,reduceAdd,reduceLeDiff,ck,hky,y3,y4,hGb,gd_nil]
    · rw [decide_eq_false (fun e=>y3 e.1)]
      simp (disch:=first|assumption|omega|(simp (disch:=first|assumption|omega) only [sB,reduceAdd,reduceLT,reduceLeDiff,reduceEqDiff,reduceMul,↓reduceIte,hGb,gd_nil];done)|fail) only [sA,↓reduceIte,reduceLT,reduceEqDiff,reduceAdd,reduceLeDiff,ck,hky,y3,hGb,gd_nil]
  rw [if_neg (by omega)]
  by_cases f7:f=7
  · subst f7
    rw [if_pos rfl]
    have hi:0 < t.kids.el.length:=by
      have:kidsN 7=3:=rfl
      omega
    have hh:t.kids.el.head?.map Tm.form=some t.kids.el[0].form:=by
      rw [List.head?_eq_getElem?,List.getElem?_eq_getElem hi]; rfl
    rw [hh]
    by_cases y3:t.kids.el[0].form=6
    · rw [decide_eq_true (by rw [y3])]
      simp (disch:=first|assumption|omega|(simp (disch:=first|assumption|omega) only [sB,reduceAdd,reduceLT,reduceLeDiff,reduceEqDiff,reduceMul,↓reduceIte,hGb,gd_nil,hi];done)|fail) only [sA,↓reduceIte,reduceLT,reduceEqDiff,reduceAdd,reduceLeDiff,ck,hky,y3,encT_eq,hGb,gd_nil,hi]
    · rw [decide_eq_false (fun e=>y3 (Option.some.inj e))]
      simp (disch:=first|assumption|omega|(simp (disch:=first|assumption|omega) only [sB,reduceAdd,reduceLT,reduceLeDiff,reduceEqDiff,reduceMul,↓reduceIte,hGb,gd_nil,hi];done)|fail) only [sA,↓reduceIte,reduceLT,reduceEqDiff,reduceAdd,reduceLeDiff,ck,hky,y3,encT_eq,hGb,gd_nil,hi]
  rw [if_neg f7]
  by_cases f2:f=2
  · subst f2
    rw [if_pos rfl]
    by_cases y3 : ((t.levels.el.length:Nat):Int)=1
    · rw [decide_eq_true (by omega),Bool.true_and]
      simp (disch:=first|assumption|omega|(simp (disch:=first|assumption|omega) only [sB,reduceAdd,reduceLT,reduceLeDiff,reduceEqDiff,reduceMul,↓reduceIte,hGb,gd_nil];done)|fail) only [sA,↓reduceIte,reduceLT,reduceEqDiff,reduceAdd,reduceLeDiff,ck,hky,cl,y3,hGb,gd_nil]
    · rw [decide_eq_false (by omega),Bool.false_and]
      simp (disch:=first|assumption|omega|(simp (disch:=first|assumption|omega) only [sB,reduceAdd,reduceLT,reduceLeDiff,reduceEqDiff,reduceMul,↓reduceIte,hGb,gd_nil];done)|fail) only [sA,↓reduceIte,reduceLT,reduceEqDiff,reduceAdd,reduceLeDiff,ck,hky,y3,hGb,gd_nil]
  rw [if_neg f2]
  by_cases f10:f=10
  · subst f10
    rw [if_pos rfl]
    by_cases y3:t.name=[]
    · rw [decide_eq_false (fun e=>e.1 y3),Bool.false_and]
      have y3':decide (t.name=[])=true:=decide_eq_true y3
      simp (disch:=first|assumption|omega|(simp (disch:=first|assumption|omega) only [sB,reduceAdd,reduceLT,reduceLeDiff,reduceEqDiff,reduceMul,↓reduceIte,hGb,gd_nil];done)|fail) only [sA,↓reduceIte,reduceLT,reduceEqDiff,reduceAdd,reduceLeDiff,ck,hky,y3',str_neq,len_str,hGb,gd_nil]
    have y3':decide (t.name=[])=false:=decide_eq_false y3
    by_cases y4 : ((t.name.length:Nat):Int)≤60
    · rw [decide_eq_true (⟨y3,by omega⟩:t.name≠[]∧t.name.length≤60),Bool.true_and]
      simp (disch:=first|assumption|omega|(simp (disch:=first|assumption|omega) only [sB,reduceAdd,reduceLT,reduceLeDiff,reduceEqDiff,reduceMul,↓reduceIte,hGb,gd_nil];done)|fail) only [sA,↓reduceIte,reduceLT,reduceEqDiff,reduceAdd,reduceLeDiff,ck,hky,cl,y3',y4,str_neq,len_str,hGb,gd_nil]
    · rw [decide_eq_false (fun e=>by have:=e.2; omega),Bool.false_and]
      simp (disch:=first|assumption|omega|(simp (disch:=first|assumption|omega) only [sB,reduceAdd,reduceLT,reduceLeDiff,reduceEqDiff,reduceMul,↓reduceIte,hGb,gd_nil];done)|fail) only [sA,↓reduceIte,reduceLT,reduceEqDiff,reduceAdd,reduceLeDiff,ck,hky,y3',y4,str_neq,len_str,hGb,gd_nil]
  rw [if_neg f10]
  simp (disch:=first|assumption|omega|(simp (disch:=first|assumption|omega) only [sB,reduceAdd,reduceLT,reduceLeDiff,reduceEqDiff,reduceMul,↓reduceIte,hGb,gd_nil];done)|fail) only [sA,↓reduceIte,reduceLT,reduceEqDiff,reduceAdd,reduceLeDiff,ck,hky,f1,f2,f7,f10,f11,hGb,gd_nil]

set_option maxHeartbeats 4000000 in
theorem pAll:∀ t:Tm,saneT t.abs=true→sizeT t.abs≤1000000→∀ (n:Nat) (h:Hps),Gd n h→callFn (LX (cF Try.prog)) n h [(D.agg [.int .i64 (t).form,.int .i64 (t).n,.bool (t).hid,.str (t).name,slD 2 encL (t).levels,slD 6 encT (t).kids]),.fn 67 [] [],.fn 68 [] []] (cF Try.prog 66) = .ok (.bool (formedT t.abs)) n h:=by
  refine Tm.ind ?_
  intro t ih hs hz n h hg
  obtain ⟨⟨hll,hkl⟩,hsk⟩:=sane_tm hs
  have hks:=kids_size t
  have hgn:=hg n (Nat.le_refl _)
  have hG:∀ m,n≤m→Gd m h:=fun m hm=>Gd.mono hg hm
  have H0:Hp n h (n+1) ((n,(Ob.row 6 [.agg [.int .i64 (t).form,.int .i64 (t).n,.bool (t).hid,.str (t).name,slD 2 encL (t).levels,slD 6 encT (t).kids]]))::h) := (Hp.start hg).box (r:=n) (m:=n+1) (Nat.le_refl _) (by omega) (flatTA t)
  have c1:=pFormed t hll
  have c2:=pParts t
  rw [formed_tm]
  rw [f66_eq]; unfold c66; rw [callFn_eq (by rfl)]
  cases hp:partOk t.abs with
  | false =>
    rw [hp] at c1
    rw [Bool.false_and]
    simp (disch:=first|assumption|omega|(simp (disch:=first|assumption|omega) only [sB,reduceAdd,reduceLT,reduceLeDiff,reduceEqDiff,reduceMul,↓reduceIte,hG,gd_tm];done)|fail) only [sA,↓reduceIte,reduceLT,reduceEqDiff,reduceAdd,reduceLeDiff,c1,hG,gd_tm]
  | true =>
    rw [hp] at c1
    rw [Bool.true_and]
    simp (disch:=first|assumption|omega|(simp (disch:=first|assumption|omega) only [sB,reduceAdd,reduceLT,reduceLeDiff,reduceEqDiff,reduceMul,↓reduceIte,hG,gd_tm];done)|fail) only [sA,↓reduceIte,reduceLT,reduceEqDiff,reduceAdd,reduceLeDiff,c1,c2,tight_el,hG,gd_tm]
    generalize hr:LX (cF Try.prog) (.loop l66_0) _ _ _=r
    obtain ⟨x,e2,n2,h2,rfl,H2,q⟩:=loop_up hr t.kids.el.length
      (fun i e n' h'=>Hp n h n' h' ∧ ((t.kids.el.drop i).all fun k=>formedT k.abs) = (t.kids.el.all fun k=>formedT k.abs)∧get (po 1) e = .fn 67 [] []∧get (po 2) e = .fn 68 [] []∧get (po 15) e=slD 6 encT t.kids.tight∧get (po 16) e = .int .i64 (t.kids.el.length:Nat)∧get (po 17) e = .int .i64 (i:Nat))
      (fun x e n' h'=>Hp n h n' h' ∧ ((x = .exit 0 ∧ (t.kids.el.all fun k=>formedT k.abs)=true) ∨ (x = .ret ∧ (t.kids.el.all fun k=>formedT k.abs)=false∧get (po 6) e = .bool false)))
      (by
        rintro e n' h' ⟨H,ha,g1,g2,g15,g16,g17⟩
        rw [List.drop_length] at ha
        unfold l66_0
        simp (disch:=first|assumption|omega|(simp (disch:=first|assumption|omega) only [sB,reduceAdd,reduceLT,reduceLeDiff,reduceEqDiff,reduceMul,↓reduceIte];done)|fail) only [sA,↓reduceIte,reduceLT,reduceEqDiff,reduceAdd,reduceLeDiff,g15,g16,g17]
        exact ⟨_,_,_,_,rfl,by simp,H.mono (by omega),.inl ⟨rfl,ha.symm⟩⟩)
      (by
        rintro i e n' h' hi ⟨H,ha,g1,g2,g15,g16,g17⟩
        rw [List.drop_eq_getElem_cons hi,List.all_cons] at ha
        have hG:∀ m,n'≤m→Gd m h':=fun m hm=>H.good' hm
        have hm:=List.getElem_mem hi
        have hsz:=size_kid hm
        have c3:=ih t.kids.el[i] hm (hsk _ hm) (by omega)
        have HB:=fun r (hr:n'≤r)=>H.box (k:=6) (r:=r) (m:=r+1) (by omega) (by omega) (flatTA t.kids.el[i])
        have hx:∀ m h,iaddrD m h 6 (slD 6 encT t.kids.tight) i = .ok (.ip (encT t.kids.el[i]) 0) m h:=fun m h=>iaddr_slD (s:=t.kids.tight) hi
        unfold l66_0
        cases hc:formedT t.kids.el[i].abs with
        | true =>
          rw [hc] at c3
          rw [hc,Bool.true_and] at ha
          simp (disch:=first|assumption|omega|(simp (disch:=first|assumption|omega) only [sB,reduceAdd,reduceLT,reduceLeDiff,reduceEqDiff,reduceMul,↓reduceIte,hG,gd_tm];done)|fail) only [sA,↓reduceIte,reduceLT,reduceEqDiff,reduceAdd,reduceLeDiff,g1,g2,g15,g16,g17,hx,encT_eq,c3,hG,gd_tm]
          exact ⟨_,_,_,_,rfl,.inl ⟨rfl,(HB (n'+3) (by omega)).mono (by omega),ha,by simp +decide only [sG,g1],by simp +decide only [sG,g2],by simp +decide only [sG,g15],by simp +decide only [sG,g16],by simp +decide only [sG]⟩⟩
        | false =>
          rw [hc] at c3
          rw [hc,Bool.false_and] at ha
          simp (disch:=first|assumption|omega|(simp (disch:=first|assumption|omega) only [sB,reduceAdd,reduceLT,reduceLeDiff,reduceEqDiff,reduceMul,↓reduceIte,hG,gd_tm];done)|fail) only [sA,↓reduceIte,reduceLT,reduceEqDiff,reduceAdd,reduceLeDiff,g1,g2,g15,g16,g17,hx,encT_eq,c3,hG,gd_tm]
          exact ⟨_,_,_,_,rfl,.inr ⟨by simp,(HB (n'+3) (by omega)).mono (by omega),.inr ⟨rfl,ha.symm,by simp +decide only [sG]⟩⟩⟩)
      ⟨H0.mono (by omega),rfl,by simp +decide only [sG],by simp +decide only [sG],by simp +decide only [sG],by simp +decide only [sG],by simp (disch:=first|assumption|omega|(simp (disch:=first|assumption|omega) only [sB,reduceAdd,reduceLT,reduceLeDiff,reduceEqDiff,reduceMul,↓reduceIte];done)|fail) only [sA,↓reduceIte,reduceLT,reduceEqDiff,reduceAdd,reduceLeDiff]⟩
    rcases q with ⟨rfl,hb⟩ | ⟨rfl,hb,g6⟩
    · rw [hb]
      simp (disch:=first|assumption|omega|(simp (disch:=first|assumption|omega) only [sB,reduceAdd,reduceLT,reduceLeDiff,reduceEqDiff,reduceMul,↓reduceIte];done)|fail) only [sA,↓reduceIte,reduceLT,reduceEqDiff,reduceAdd,reduceLeDiff,finish_flat (d := .bool true) rfl (H2.mono (show n2≤n2+1 by omega))]
    · rw [hb]
      simp (disch:=first|assumption|omega|(simp (disch:=first|assumption|omega) only [sB,reduceAdd,reduceLT,reduceLeDiff,reduceEqDiff,reduceMul,↓reduceIte];done)|fail) only [sA,↓reduceIte,reduceLT,reduceEqDiff,reduceAdd,reduceLeDiff,g6,finish_flat (d := .bool false) rfl H2]
end Go.Proofs.Ytpbpmpabndgeeaa

/- The program's gauge: how many parts,how high; Check,Size. No condition but lengths. -/
namespace Go.Proofs.Ytpbpmpabndgeeaa
open Go
open Nat (reduceAdd reduceLT reduceLeDiff reduceEqDiff reduceMul)

mutual
def fitG:Trm→Int→Int→Bool×Int
  | .mk _ _ _ _ _ ks,hi,c=>if c+1 > 20000∨hi > 500 then (false,c+1) else fitGs ks (hi+1) (c+1)
def fitGs:List Trm→Int→Int→Bool×Int
  | [],_,c => (true,c)
  | k::t,hi,c=>bif (fitG k hi c).1 then fitGs t hi (fitG k hi c).2 else (false,(fitG k hi c).2)
end
theorem fitG_eq (t:Trm) (hi c:Int):fitG t hi c=if c+1 > 20000∨hi > 500 then (false,c+1) else fitGs t.kids (hi+1) (c+1):=by cases t; rw [fitG]; rfl
theorem fitGs_nil (hi c:Int):fitGs [] hi c = (true,c):=by rw [fitGs]
theorem fitGs_cons (k:Trm) (t:List Trm) (hi c:Int):fitGs (k::t) hi c=bif (fitG k hi c).1 then fitGs t hi (fitG k hi c).2 else (false,(fitG k hi c).2):=by rw [fitGs]
def FitP (z g hi c:Int) (x:Bool×Int):Prop := (x.1=true↔c+z≤20000∧hi+g≤501) ∧ (x.1=true→x.2=c+z)∧x.2≤20001∧c≤x.2
theorem fitG_spec:∀ t:Trm,∀ hi c:Int,c≤20000→FitP (sizeT t) (highT t) hi c (fitG t hi c):=by
  refine Trm.ind ?_
  intro t ih hi c hc
  have key:∀ (l:List Trm) (hi c:Int),(∀ k,k∈l→k∈t.kids)→c≤20000 → (hi≤501)→FitP (sizeTs l) (highTs l) hi c (fitGs l hi c):=by
    intro l
    induction l with
    | nil=>intro hi c _ hc hh; rw [fitGs_nil,sizeTs_nil,highTs_nil]; exact ⟨by simp; omega,by simp,by show c≤20001; omega,Int.le_refl _⟩
    | cons k l ihl =>
      intro hi c hm hc hh
      have h1:=ih k (hm k (by simp)) hi c hc
      rw [fitGs_cons,sizeTs_cons,highTs_cons]
      have hp:=sizeT_pos k
      generalize fitG k hi c=x at h1
      obtain ⟨b,c'⟩:=x
      obtain ⟨h2,h3,h4,h5⟩:=h1
      cases b with
      | false =>
        show FitP _ _ hi c (false,c')
        refine ⟨?_,by simp,h4,h5⟩
        have h6:¬ (c + (sizeT k:Int)≤20000∧hi + (highT k:Int)≤501):=fun h=>by have:=h2.2 h; cases this
        constructor
        · intro h; cases h
        · rintro ⟨h7,h8⟩; exact absurd ⟨by omega,by omega⟩ h6
      | true =>
        show FitP _ _ hi c (fitGs l hi c')
        have h6:c'=c+sizeT k:=h3 rfl
        have h7:=h2.1 rfl
        obtain ⟨g1,g2,g3,g4⟩:=ihl hi c' (fun q hq=>hm q (by simp [hq])) (by omega) hh
        refine ⟨g1.trans ?_,fun h=>by have:=g2 h; omega,g3,by omega⟩
        constructor
        · rintro ⟨h8,h9⟩; omega
        · rintro ⟨h8,h9⟩; omega
  rw [fitG_eq,sizeT_eq,highT_eq]
  by_cases h:c+1 > 20000∨hi > 500
  · rw [if_pos h]
    refine ⟨?_,by simp,by show c+1≤20001; omega,by show c≤c+1; omega⟩
    constructor
    · intro h; cases h
    · rintro ⟨h1,h2⟩; omega
  · rw [if_neg h]
    obtain ⟨g1,g2,g3,g4⟩:=key t.kids (hi+1) (c+1) (fun _ h=>h) (by omega) (by omega)
    refine ⟨g1.trans ?_,fun h=>by have:=g2 h; omega,g3,by omega⟩
    constructor
    · rintro ⟨h8,h9⟩; omega
    · rintro ⟨h8,h9⟩; omega
theorem gaugeLow (c:Int) (k:Nat):lowO k (.row 1 [.agg [.int .i64 c]]):=lowO_one (low_flat rfl)

set_option maxHeartbeats 8000000 in
theorem pFits:∀ t:Tm,∀ hi c:Int,0≤c→c≤20000→0≤hi→hi≤1000→∀ (n:Nat) (h:Hps) (r:Nat),Gd n h→getO h r = .row 1 [.agg [.int .i64 c]] →
    callFn (LX (cF Try.prog)) n h [.ptr r 0 0,(D.agg [.int .i64 (t).form,.int .i64 (t).n,.bool (t).hid,.str (t).name,slD 2 encL (t).levels,slD 6 encT (t).kids]),.int .i64 hi] (cF Try.prog 65) = .ok (.bool (fitG t.abs hi c).1) n (setO h r (.row 1 [.agg [.int .i64 (fitG t.abs hi c).2]])):=by
  refine Tm.ind ?_
  intro t ih hi c hc hc2 hh hh2 n h r hg hr0
  have hgn:=hg n (Nat.le_refl _)
  have hrn:r < n:=getO_low hgn (by rw [hr0]; exact fun h=>by cases h)
  have hne:getO h r ≠ .none:=by rw [hr0]; exact fun h=>by cases h
  have hgs:=fun x:Ob=>getO_setO_same (x:=x) hne
  have H0:∀ x:Int,Hp n (setO h r (.row 1 [.agg [.int .i64 x]])) (n+1) ((n,(Ob.row 6 [.agg [.int .i64 (t).form,.int .i64 (t).n,.bool (t).hid,.str (t).name,slD 2 encL (t).levels,slD 6 encT (t).kids]]))::setO h r (.row 1 [.agg [.int .i64 x]])):=fun x=>by
    have := ((Hp.start hg).box (k:=6) (r:=n) (m:=n+1) (Nat.le_refl _) (by omega) (flatTA t)).setLow hrn (gaugeLow x n) (fun k _=>gaugeLow x k)
    rwa [setO_tl (by omega)] at this
  rw [fitG_eq,abs_kids]
  rw [f65_eq]; unfold c65; rw [callFn_eq (by rfl)]
  by_cases y1:c+1 > 20000
  · rw [if_pos (Or.inl y1)]
    simp (disch:=first|assumption|omega|(simp (disch:=first|assumption|omega) only [sB,reduceAdd,reduceLT,reduceLeDiff,reduceEqDiff,reduceMul,↓reduceIte];done)|fail) only [sA,↓reduceIte,reduceLT,reduceEqDiff,reduceAdd,reduceLeDiff,hr0,hgs,y1,finish_flat (d := .bool false) rfl ((H0 (c+1)).mono (show n+1≤n+20 by omega))]
  by_cases y2:hi > 500
  · rw [if_pos (Or.inr y2)]
    simp (disch:=first|assumption|omega|(simp (disch:=first|assumption|omega) only [sB,reduceAdd,reduceLT,reduceLeDiff,reduceEqDiff,reduceMul,↓reduceIte];done)|fail) only [sA,↓reduceIte,reduceLT,reduceEqDiff,reduceAdd,reduceLeDiff,hr0,hgs,y1,y2,finish_flat (d := .bool false) rfl ((H0 (c+1)).mono (show n+1≤n+20 by omega))]
  rw [if_neg (by omega)]
  simp (disch:=first|assumption|omega|(simp (disch:=first|assumption|omega) only [sB,reduceAdd,reduceLT,reduceLeDiff,reduceEqDiff,reduceMul,↓reduceIte];done)|fail) only [sA,↓reduceIte,reduceLT,reduceEqDiff,reduceAdd,reduceLeDiff,hr0,hgs,y1,y2]
  generalize hR:fitGs (t.kids.el.map Tm.abs) (hi+1) (c+1)=R
  generalize hr:LX (cF Try.prog) (.loop l65_0) _ _ _=rr
  obtain ⟨x,e2,n2,h2,rfl,H2,q⟩:=loop_up hr t.kids.el.length
    (fun i e n' h'=>∃ ci:Int,fitGs ((t.kids.el.drop i).map Tm.abs) (hi+1) ci=R∧0≤ci∧ci≤20000 ∧ (i:Int)≤ci∧Hp n (setO h r (.row 1 [.agg [.int .i64 ci]])) n' h'∧getO h' r = .row 1 [.agg [.int .i64 ci]]∧get (po 0) e = .ptr r 0 0∧get (po 2) e = .int .i64 hi∧get (po 26) e=slD 6 encT t.kids∧get (po 27) e = .int .i64 (t.kids.el.length:Nat)∧get (po 28) e = .int .i64 (i:Nat))
    (fun x e n' h'=>Hp n (setO h r (.row 1 [.agg [.int .i64 R.2]])) n' h' ∧ ((x = .exit 0∧R.1=true) ∨ (x = .ret∧R.1=false∧get (po 6) e = .bool false)))
    (by
      rintro e n' h' ⟨ci,z1,z2,z3,z4,H,b,g0,g2,g26,g27,g28⟩
      rw [List.drop_length,List.map_nil,fitGs_nil] at z1
      subst z1
      unfold l65_0
      simp (disch:=first|assumption|omega|(simp (disch:=first|assumption|omega) only [sB,reduceAdd,reduceLT,reduceLeDiff,reduceEqDiff,reduceMul,↓reduceIte];done)|fail) only [sA,↓reduceIte,reduceLT,reduceEqDiff,reduceAdd,reduceLeDiff,g26,g27,g28]
      exact ⟨_,_,_,_,rfl,by simp,H.mono (by omega),.inl ⟨rfl,by first | rfl | trivial⟩⟩)
    (by
      rintro i e n' h' hil ⟨ci,z1,z2,z3,z4,H,b,g0,g2,g26,g27,g28⟩
      rw [List.drop_eq_getElem_cons hil,List.map_cons,fitGs_cons] at z1
      have hm:=List.getElem_mem hil
      have sp:=fitG_spec t.kids.el[i].abs (hi+1) ci z3
      have hp:=sizeT_pos t.kids.el[i].abs
      have hnn:=H.le
      have hneb:getO h' r ≠ .none:=by rw [b]; exact fun h=>by cases h
      have HB:Hp n (setO h r (.row 1 [.agg [.int .i64 ci]])) (n'+4) ((n'+3,(Ob.row 6 [.agg [.int .i64 (t.kids.el[i]).form,.int .i64 (t.kids.el[i]).n,.bool (t.kids.el[i]).hid,.str (t.kids.el[i]).name,slD 2 encL (t.kids.el[i]).levels,slD 6 encT (t.kids.el[i]).kids]]))::h'):=H.box (r:=n'+3) (m:=n'+4) (by omega) (by omega) (flatTA t.kids.el[i])
      have c1:∀ m,n'+4≤m→callFn (LX (cF Try.prog)) m ((n'+3,(Ob.row 6 [.agg [.int .i64 (t.kids.el[i]).form,.int .i64 (t.kids.el[i]).n,.bool (t.kids.el[i]).hid,.str (t.kids.el[i]).name,slD 2 encL (t.kids.el[i]).levels,slD 6 encT (t.kids.el[i]).kids]]))::h') [.ptr r 0 0,(D.agg [.int .i64 (t.kids.el[i]).form,.int .i64 (t.kids.el[i]).n,.bool (t.kids.el[i]).hid,.str (t.kids.el[i]).name,slD 2 encL (t.kids.el[i]).levels,slD 6 encT (t.kids.el[i]).kids]),.int .i64 (hi+1)] (cF Try.prog 65) = .ok (.bool (fitG t.kids.el[i].abs (hi+1) ci).1) m ((n'+3,(Ob.row 6 [.agg [.int .i64 (t.kids.el[i]).form,.int .i64 (t.kids.el[i]).n,.bool (t.kids.el[i]).hid,.str (t.kids.el[i]).name,slD 2 encL (t.kids.el[i]).levels,slD 6 encT (t.kids.el[i]).kids]]))::setO h' r (.row 1 [.agg [.int .i64 (fitG t.kids.el[i].abs (hi+1) ci).2]])):=fun m hm2=>by
        have:=ih t.kids.el[i] hm (hi+1) ci z2 z3 (by omega) (by omega) m _ r (fun k hk=>HB.good' hm2 k hk) (by rw [getO_tl (by omega)]; exact b)
        rwa [setO_tl (by omega)] at this
      have HS:∀ x:Int,Hp n (setO h r (.row 1 [.agg [.int .i64 x]])) (n'+4) ((n'+3,(Ob.row 6 [.agg [.int .i64 (t.kids.el[i]).form,.int .i64 (t.kids.el[i]).n,.bool (t.kids.el[i]).hid,.str (t.kids.el[i]).name,slD 2 encL (t.kids.el[i]).levels,slD 6 encT (t.kids.el[i]).kids]]))::setO h' r (.row 1 [.agg [.int .i64 x]])):=fun x=>by
        have:=HB.setLow hrn (gaugeLow x n) (fun k _=>gaugeLow x k)
        rwa [setO_setO,setO_tl (by omega)] at this
      generalize fitG t.kids.el[i].abs (hi+1) ci=G at z1 sp c1
      obtain ⟨gb,gc⟩:=G
      obtain ⟨s1,s2,s3,s4⟩:=sp
      replace s3:gc≤20001:=s3
      unfold l65_0
      cases gb with
      | true =>
        replace z1:fitGs ((t.kids.el.drop (i+1)).map Tm.abs) (hi+1) gc=R:=z1
        have s5:gc=ci + (sizeT t.kids.el[i].abs:Int):=s2 rfl
        have s6:=s1.1 rfl
        replace c1:∀ m,n'+4≤m→callFn (LX (cF Try.prog)) m ((n'+3,(Ob.row 6 [.agg [.int .i64 (t.kids.el[i]).form,.int .i64 (t.kids.el[i]).n,.bool (t.kids.el[i]).hid,.str (t.kids.el[i]).name,slD 2 encL (t.kids.el[i]).levels,slD 6 encT (t.kids.el[i]).kids]]))::h') [.ptr r 0 0,(D.agg [.int .i64 (t.kids.el[i]).form,.int .i64 (t.kids.el[i]).n,.bool (t.kids.el[i]).hid,.str (t.kids.el[i]).name,slD 2 encL (t.kids.el[i]).levels,slD 6 encT (t.kids.el[i]).kids]),.int .i64 (hi+1)] (cF Try.prog 65) = .ok (.bool true) m ((n'+3,(Ob.row 6 [.agg [.int .i64 (t.kids.el[i]).form,.int .i64 (t.kids.el[i]).n,.bool (t.kids.el[i]).hid,.str (t.kids.el[i]).name,slD 2 encL (t.kids.el[i]).levels,slD 6 encT (t.kids.el[i]).kids]]))::setO h' r (.row 1 [.agg [.int .i64 gc]])):=c1
        simp (disch:=first|assumption|omega|(simp (disch:=first|assumption|omega) only [sB,reduceAdd,reduceLT,reduceLeDiff,reduceEqDiff,reduceMul,↓reduceIte];done)|fail) only [sA,↓reduceIte,reduceLT,reduceEqDiff,reduceAdd,reduceLeDiff,g0,g2,g26,g27,g28,encT_eq,c1]
        exact ⟨_,_,_,_,rfl,.inl ⟨rfl,gc,z1,by omega,by omega,by omega,(HS gc).mono (by omega),by rw [getO_tl (by omega)]; exact getO_setO_same hneb,by simp +decide only [sG,g0],by simp +decide only [sG,g2],by simp +decide only [sG,g26],by simp +decide only [sG,g27],by simp +decide only [sG]⟩⟩
      | false =>
        replace z1 : (false,gc)=R:=z1
        subst z1
        replace c1:∀ m,n'+4≤m→callFn (LX (cF Try.prog)) m ((n'+3,(Ob.row 6 [.agg [.int .i64 (t.kids.el[i]).form,.int .i64 (t.kids.el[i]).n,.bool (t.kids.el[i]).hid,.str (t.kids.el[i]).name,slD 2 encL (t.kids.el[i]).levels,slD 6 encT (t.kids.el[i]).kids]]))::h') [.ptr r 0 0,(D.agg [.int .i64 (t.kids.el[i]).form,.int .i64 (t.kids.el[i]).n,.bool (t.kids.el[i]).hid,.str (t.kids.el[i]).name,slD 2 encL (t.kids.el[i]).levels,slD 6 encT (t.kids.el[i]).kids]),.int .i64 (hi+1)] (cF Try.prog 65) = .ok (.bool false) m ((n'+3,(Ob.row 6 [.agg [.int .i64 (t.kids.el[i]).form,.int .i64 (t.kids.el[i]).n,.bool (t.kids.el[i]).hid,.str (t.kids.el[i]).name,slD 2 encL (t.kids.el[i]).levels,slD 6 encT (t.kids.el[i]).kids]]))::setO h' r (.row 1 [.agg [.int .i64 gc]])):=c1
        simp (disch:=first|assumption|omega|(simp (disch:=first|assumption|omega) only [sB,reduceAdd,reduceLT,reduceLeDiff,reduceEqDiff,reduceMul,↓reduceIte];done)|fail) only [sA,↓reduceIte,reduceLT,reduceEqDiff,reduceAdd,reduceLeDiff,g0,g2,g26,g27,g28,encT_eq,c1]
        exact ⟨_,_,_,_,rfl,.inr ⟨by simp,(HS gc).mono (by omega),.inr ⟨rfl,by first | rfl | trivial,by simp +decide only [sG]⟩⟩⟩)
    ⟨c+1,hR,by omega,by omega,by omega,(H0 (c+1)).mono (by omega),by rw [getO_tl (by omega)]; exact hgs _,by simp +decide only [sG],by simp +decide only [sG],by simp +decide only [sG],by simp +decide only [sG],by simp (disch:=first|assumption|omega|(simp (disch:=first|assumption|omega) only [sB,reduceAdd,reduceLT,reduceLeDiff,reduceEqDiff,reduceMul,↓reduceIte];done)|fail) only [sA,↓reduceIte,reduceLT,reduceEqDiff,reduceAdd,reduceLeDiff]⟩
  rcases q with ⟨rfl,hb⟩ | ⟨rfl,hb,g6⟩
  · rw [hb]
    simp (disch:=first|assumption|omega|(simp (disch:=first|assumption|omega) only [sB,reduceAdd,reduceLT,reduceLeDiff,reduceEqDiff,reduceMul,↓reduceIte];done)|fail) only [sA,↓reduceIte,reduceLT,reduceEqDiff,reduceAdd,reduceLeDiff,finish_flat (d := .bool true) rfl (H2.mono (show n2≤n2+1 by omega))]
  · rw [hb]
    simp (disch:=first|assumption|omega|(simp (disch:=first|assumption|omega) only [sB,reduceAdd,reduceLT,reduceLeDiff,reduceEqDiff,reduceMul,↓reduceIte];done)|fail) only [sA,↓reduceIte,reduceLT,reduceEqDiff,reduceAdd,reduceLeDiff,g6,finish_flat (d := .bool false) rfl H2]
end Go.Proofs.Ytpbpmpabndgeeaa

/- The program's Check and Size,told; how much a term is. No condition but lengths. -/
namespace Go.Proofs.Ytpbpmpabndgeeaa
open Go
open Nat (reduceAdd reduceLT reduceLeDiff reduceEqDiff reduceMul)

theorem fits_iff (t:Trm) : (fitG t 1 0).1=fitsT t:=by
  obtain ⟨h,_⟩:=fitG_spec t 1 0 (by decide)
  unfold fitsT
  by_cases hy:sizeT t≤20000∧highT t≤500
  · rw [decide_eq_true hy]; exact h.2 ⟨by omega,by omega⟩
  · rw [decide_eq_false hy]
    cases hb : (fitG t 1 0).1 with
    | false=>rfl
    | true=>exact absurd (h.1 hb) (by omega)
set_option maxHeartbeats 4000000 in
theorem pCheck (t:Tm) (hs:saneT t.abs=true) (n:Nat) (h:Hps) (hg:Gd n h):callFn (LX (cF Try.prog)) n h [(D.agg [.int .i64 (t).form,.int .i64 (t).n,.bool (t).hid,.str (t).name,slD 2 encL (t).levels,slD 6 encT (t).kids])] (cF Try.prog 40) = .ok (.int .i64 (checkT t.abs)) n h:=by
  have hgn:=hg n (Nat.le_refl _)
  have H1:Hp n h (n+4) ((n+3,.row 1 [.agg [.int .i64 0]]) :: (n,(Ob.row 6 [.agg [.int .i64 (t).form,.int .i64 (t).n,.bool (t).hid,.str (t).name,slD 2 encL (t).levels,slD 6 encT (t).kids]]))::h) := ((Hp.start hg).box (k:=6) (r:=n) (m:=n+1) (Nat.le_refl _) (by omega) (flatTA t)).box (k:=1) (r:=n+3) (m:=n+4) (by omega) (by omega) (d := .agg [.int .i64 0]) rfl
  have hx:=fitG_spec t.abs 1 0 (by decide)
  have c1:∀ m,n+4≤m→callFn (LX (cF Try.prog)) m ((n+3,.row 1 [.agg [.int .i64 0]]) :: (n,(Ob.row 6 [.agg [.int .i64 (t).form,.int .i64 (t).n,.bool (t).hid,.str (t).name,slD 2 encL (t).levels,slD 6 encT (t).kids]]))::h) [.ptr (n+3) 0 0,(D.agg [.int .i64 (t).form,.int .i64 (t).n,.bool (t).hid,.str (t).name,slD 2 encL (t).levels,slD 6 encT (t).kids]),.int .i64 1] (cF Try.prog 65) = .ok (.bool (fitsT t.abs)) m ((n+3,.row 1 [.agg [.int .i64 (fitG t.abs 1 0).2]]) :: (n,(Ob.row 6 [.agg [.int .i64 (t).form,.int .i64 (t).n,.bool (t).hid,.str (t).name,slD 2 encL (t).levels,slD 6 encT (t).kids]]))::h):=fun m hm=>by
    have:=pFits t 1 0 (by decide) (by decide) (by decide) (by decide) m _ (n+3) (fun k hk=>H1.good' hm k hk) getO_hd
    rwa [setO_hd,fits_iff] at this
  generalize (fitG t.abs 1 0).2=C at c1
  have hG2:∀ m,n+4≤m→Gd m ((n+3,.row 1 [.agg [.int .i64 C]]) :: (n,(Ob.row 6 [.agg [.int .i64 (t).form,.int .i64 (t).n,.bool (t).hid,.str (t).name,slD 2 encL (t).levels,slD 6 encT (t).kids]]))::h):=fun m hm => (((Hp.start hg).box (k:=6) (r:=n) (m:=n+1) (Nat.le_refl _) (by omega) (flatTA t)).box (k:=1) (r:=n+3) (m:=n+4) (by omega) (by omega) (d := .agg [.int .i64 C]) rfl).good' hm
  unfold checkT
  rw [f40_eq]; unfold c40; rw [callFn_eq (by rfl)]
  cases hf:fitsT t.abs with
  | false =>
    rw [hf] at c1
    rw [if_neg (by decide)]
    simp (disch:=first|assumption|omega|(simp (disch:=first|assumption|omega) only [sB,reduceAdd,reduceLT,reduceLeDiff,reduceEqDiff,reduceMul,↓reduceIte];done)|fail) only [sA,↓reduceIte,reduceLT,reduceEqDiff,reduceAdd,reduceLeDiff,c1]
  | true =>
    rw [hf] at c1
    rw [if_pos rfl]
    have hz:sizeT t.abs≤20000:=by
      unfold fitsT at hf
      rw [decide_eq_true_iff] at hf
      exact hf.1
    have c2:=pAll t hs (by omega)
    cases hb:formedT t.abs with
    | true =>
      rw [hb] at c2
      rw [if_pos rfl]
      simp (disch:=first|assumption|omega|(simp (disch:=first|assumption|omega) only [sB,reduceAdd,reduceLT,reduceLeDiff,reduceEqDiff,reduceMul,↓reduceIte,hG2];done)|fail) only [sA,↓reduceIte,reduceLT,reduceEqDiff,reduceAdd,reduceLeDiff,c1,c2,hG2]
    | false =>
      rw [hb] at c2
      rw [if_neg (by decide)]
      simp (disch:=first|assumption|omega|(simp (disch:=first|assumption|omega) only [sB,reduceAdd,reduceLT,reduceLeDiff,reduceEqDiff,reduceMul,↓reduceIte,hG2];done)|fail) only [sA,↓reduceIte,reduceLT,reduceEqDiff,reduceAdd,reduceLeDiff,c1,c2,hG2]

end Go.Proofs.Ytpbpmpabndgeeaa
