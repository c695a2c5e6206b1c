/- A term is much, or it is not: the law's count comes to an end. No condition but that rows are not longer than any. -/
import Derived.Test.YtdijijblccmfbaaNTG
set_option linter.unusedSimpArgs false
set_option linter.unusedVariables false
namespace Go.Proofs.Ytdijijblccmfbaa
open Go
open Nat (reduceAdd reduceLT reduceLeDiff reduceEqDiff reduceMul)

theorem pick_m {P:Nat→Int→Prop} {n:Nat} (h:∀ m,n≤m→∃ v,P m v):∃ V:Nat→Int,∀ m,n≤m→P m (V m) :=
  ⟨fun m=>if hm:n≤m then Classical.choose (h m hm) else 0,fun m hm=>by
    show P m (if hm:n≤m then Classical.choose (h m hm) else 0)
    rw [dif_pos hm]
    exact Classical.choose_spec (h m hm)⟩
theorem some_add (a b:Int):∃ v,binD .add (.int .i64 a) (.int .i64 b) = .int .i64 v:=⟨_,rfl⟩
theorem some_quo (a:Int):∃ v,binD .quo (.int .i64 a) (.int .i64 16) = .int .i64 v:=⟨_,rfl⟩

set_option maxHeartbeats 8000000 in
theorem countE:∀ t:Tm,saneT t.abs=true→∀ most high:Int,0≤high→∀ (n:Nat) (h:Hps),Gd n h→∃ v,callFn (LX (cFk kL Try.prog)) n h [(D.agg [.int .i64 (t).form,.int .i64 (t).n,.bool (t).hid,.str (t).name,slD 2 encL (t).levels,slD 6 encT (t).kids]),.int .i64 most,.int .i64 high] (cFk kL Try.prog 57) = .ok (.int .i64 v) n h:=by
  refine Tm.ind ?_
  intro t ih hs most high hh n h hg
  obtain ⟨⟨hll,hkl⟩,hsk⟩:=sane_tm hs
  have hgn:=hg n (Nat.le_refl _)
  have H0:Hp n h (n+1) ((n,(Ob.row 6 [.agg [.int .i64 (t).form,.int .i64 (t).n,.bool (t).hid,.str (t).name,slD 2 encL (t).levels,slD 6 encT (t).kids]]))::h) := (Hp.start hg).box (k:=6) (r:=n) (m:=n+1) (Nat.le_refl _) (by omega) (flatTA t)
  obtain ⟨q,hq⟩:=some_quo ((t.name.length:Nat):Int)
  obtain ⟨v0,hv0⟩:=some_add 1 q
  rw [f57_eq]; unfold c57; rw [callFn_eq (by rfl)]
  by_cases y1:high > 700
  · obtain ⟨v1,hv1⟩:=some_add most 1
    simp (disch:=first|assumption|omega|(simp (disch:=first|assumption|omega) only [sB,reduceAdd,reduceLT,reduceLeDiff,reduceEqDiff,reduceMul,↓reduceIte];done)|fail) only [sA,↓reduceIte,reduceLT,reduceEqDiff,reduceAdd,reduceLeDiff,len_str,hq,hv0,hv1,y1]
    exact ⟨_,rfl⟩
  simp (disch:=first|assumption|omega|(simp (disch:=first|assumption|omega) only [sB,reduceAdd,reduceLT,reduceLeDiff,reduceEqDiff,reduceMul,↓reduceIte];done)|fail) only [sA,↓reduceIte,reduceLT,reduceEqDiff,reduceAdd,reduceLeDiff,len_str,hq,hv0,y1]
  generalize hr:LX (cFk kL Try.prog) (.loop l57_0) _ _ _=r
  obtain ⟨x,e2,n2,h2,rfl,rfl,H2,p2,b2,⟨v2,g7⟩,g1,g2,g3⟩:=loop_up hr t.levels.el.length
    (fun i e n' h'=>Hp n h n' h'∧n+1≤n'∧getO h' n = (Ob.row 6 [.agg [.int .i64 (t).form,.int .i64 (t).n,.bool (t).hid,.str (t).name,slD 2 encL (t).levels,slD 6 encT (t).kids]]) ∧ (∃ v,get (po 7) e = .int .i64 v)∧get (po 1) e = .int .i64 most∧get (po 2) e = .int .i64 high∧get (po 3) e = .ptr n 0 0∧get (po 8) e = .int .i64 (i:Nat))
    (fun x e n' h'=>x = .exit 0∧Hp n h n' h'∧n+1≤n'∧getO h' n = (Ob.row 6 [.agg [.int .i64 (t).form,.int .i64 (t).n,.bool (t).hid,.str (t).name,slD 2 encL (t).levels,slD 6 encT (t).kids]]) ∧ (∃ v,get (po 7) e = .int .i64 v)∧get (po 1) e = .int .i64 most∧get (po 2) e = .int .i64 high∧get (po 3) e = .ptr n 0 0)
    (by
      rintro e n' h' ⟨H,p1,b,⟨v,g7⟩,g1,g2,g3,g8⟩
      unfold l57_0
      simp (disch:=first|assumption|omega|(simp (disch:=first|assumption|omega) only [sB,reduceAdd,reduceLT,reduceLeDiff,reduceEqDiff,reduceMul,↓reduceIte];done)|fail) only [sA,↓reduceIte,reduceLT,reduceEqDiff,reduceAdd,reduceLeDiff,g1,g3,g7,g8,b]
      exact ⟨_,_,_,_,rfl,by simp,rfl,H.mono (by omega),by omega,b,⟨v,by simp +decide only [sG,g7]⟩,by simp +decide only [sG,g1],by simp +decide only [sG,g2],by simp +decide only [sG,g3]⟩)
    (by
      rintro i e n' h' hi ⟨H,p1,b,⟨v,g7⟩,g1,g2,g3,g8⟩
      unfold l57_0
      by_cases y:v≤most
      · obtain ⟨v1,hv1⟩:=some_add v 1
        obtain ⟨v2,hv2⟩:=some_add v1 ((t.levels.el[i].vs.el.length:Nat):Int)
        have hE:encL t.levels.el[i] = .agg [.int .i64 t.levels.el[i].n,slD 2 encV t.levels.el[i].vs]:=rfl
        simp (disch:=first|assumption|omega|(simp (disch:=first|assumption|omega) only [sB,reduceAdd,reduceLT,reduceLeDiff,reduceEqDiff,reduceMul,↓reduceIte];done)|fail) only [sA,↓reduceIte,reduceLT,reduceEqDiff,reduceAdd,reduceLeDiff,g1,g3,g7,g8,b,y,hE,hv1,hv2]
        exact ⟨_,_,_,_,rfl,.inl ⟨rfl,H.mono (by omega),by omega,b,⟨v2,by simp +decide only [sG]⟩,by simp +decide only [sG,g1],by simp +decide only [sG,g2],by simp +decide only [sG,g3],by simp +decide only [sG]⟩⟩
      · simp (disch:=first|assumption|omega|(simp (disch:=first|assumption|omega) only [sB,reduceAdd,reduceLT,reduceLeDiff,reduceEqDiff,reduceMul,↓reduceIte];done)|fail) only [sA,↓reduceIte,reduceLT,reduceEqDiff,reduceAdd,reduceLeDiff,g1,g3,g7,g8,b,y]
        exact ⟨_,_,_,_,rfl,.inr ⟨by simp,rfl,H.mono (by omega),by omega,b,⟨v,by simp +decide only [sG,g7]⟩,by simp +decide only [sG,g1],by simp +decide only [sG,g2],by simp +decide only [sG,g3]⟩⟩)
    ⟨H0.mono (by omega),by omega,by simp (disch:=first|assumption|omega|(simp (disch:=first|assumption|omega) only [sB,reduceAdd,reduceLT,reduceLeDiff,reduceEqDiff,reduceMul,↓reduceIte];done)|fail) only [sA,↓reduceIte,reduceLT,reduceEqDiff,reduceAdd,reduceLeDiff],⟨v0,by simp +decide only [sG]⟩,by simp +decide only [sG],by simp +decide only [sG],by simp +decide only [sG],by simp (disch:=first|assumption|omega|(simp (disch:=first|assumption|omega) only [sB,reduceAdd,reduceLT,reduceLeDiff,reduceEqDiff,reduceMul,↓reduceIte];done)|fail) only [sA,↓reduceIte,reduceLT,reduceEqDiff,reduceAdd,reduceLeDiff]⟩
  simp (disch:=first|assumption|omega|(simp (disch:=first|assumption|omega) only [sB,reduceAdd,reduceLT,reduceLeDiff,reduceEqDiff,reduceMul,↓reduceIte];done)|fail) only [sA,↓reduceIte,reduceLT,reduceEqDiff,reduceAdd,reduceLeDiff,g1,g2,g3,g7]
  generalize hr:LX (cFk kL Try.prog) (.loop l57_1) _ _ _=r
  obtain ⟨x,e3,n3,h3,rfl,rfl,H3,⟨v3,g7⟩⟩:=loop_up hr t.kids.el.length
    (fun i e n' h'=>Hp n h n' h'∧n+1≤n'∧getO h' n = (Ob.row 6 [.agg [.int .i64 (t).form,.int .i64 (t).n,.bool (t).hid,.str (t).name,slD 2 encL (t).levels,slD 6 encT (t).kids]]) ∧ (∃ v,get (po 7) e = .int .i64 v)∧get (po 1) e = .int .i64 most∧get (po 2) e = .int .i64 high∧get (po 3) e = .ptr n 0 0∧get (po 9) e = .int .i64 (i:Nat))
    (fun x e n' h'=>x = .exit 2∧Hp n h n' h' ∧ (∃ v,get (po 7) e = .int .i64 v))
    (by
      rintro e n' h' ⟨H,p1,b,⟨v,g7⟩,g1,g2,g3,g9⟩
      unfold l57_1
      simp (disch:=first|assumption|omega|(simp (disch:=first|assumption|omega) only [sB,reduceAdd,reduceLT,reduceLeDiff,reduceEqDiff,reduceMul,↓reduceIte];done)|fail) only [sA,↓reduceIte,reduceLT,reduceEqDiff,reduceAdd,reduceLeDiff,g1,g3,g7,g9,b]
      exact ⟨_,_,_,_,rfl,by simp,rfl,H.mono (by omega),⟨v,by simp +decide only [sG,g7]⟩⟩)
    (by
      rintro i e n' h' hi ⟨H,p1,b,⟨v,g7⟩,g1,g2,g3,g9⟩
      unfold l57_1
      by_cases y:v≤most
      · have hm:=List.getElem_mem hi
        obtain ⟨V,hV⟩:=pick_m (n:=n') (P:=fun m v=>callFn (LX (cFk kL Try.prog)) m h' [(D.agg [.int .i64 (t.kids.el[i]).form,.int .i64 (t.kids.el[i]).n,.bool (t.kids.el[i]).hid,.str (t.kids.el[i]).name,slD 2 encL (t.kids.el[i]).levels,slD 6 encT (t.kids.el[i]).kids]),.int .i64 most,.int .i64 (high+1)] (cFk kL Try.prog 57) = .ok (.int .i64 v) m h') (fun m hm2=>ih t.kids.el[i] hm (hsk _ hm) most (high+1) (by omega) m h' (fun k hk=>H.good' hm2 k hk))
        have hv2:∀ m,∃ w,binD .add (.int .i64 v) (.int .i64 (V m)) = .int .i64 w:=fun m=>some_add _ _
        obtain ⟨W,hW⟩:∃ W:Nat→Int,∀ m,binD .add (.int .i64 v) (.int .i64 (V m)) = .int .i64 (W m):=⟨fun m=>Classical.choose (hv2 m),fun m=>Classical.choose_spec (hv2 m)⟩
        simp (disch:=first|assumption|omega|(simp (disch:=first|assumption|omega) only [sB,reduceAdd,reduceLT,reduceLeDiff,reduceEqDiff,reduceMul,↓reduceIte];done)|fail) only [sA,↓reduceIte,reduceLT,reduceEqDiff,reduceAdd,reduceLeDiff,g1,g2,g3,g7,g9,b,y,encT_eq,hV,hW]
        exact ⟨_,_,_,_,rfl,.inl ⟨rfl,H.mono (by omega),by omega,b,⟨_,by simp +decide only [sG]; rfl⟩,by simp +decide only [sG,g1],by simp +decide only [sG,g2],by simp +decide only [sG,g3],by simp +decide only [sG]⟩⟩
      · simp (disch:=first|assumption|omega|(simp (disch:=first|assumption|omega) only [sB,reduceAdd,reduceLT,reduceLeDiff,reduceEqDiff,reduceMul,↓reduceIte];done)|fail) only [sA,↓reduceIte,reduceLT,reduceEqDiff,reduceAdd,reduceLeDiff,g1,g3,g7,g9,b,y]
        exact ⟨_,_,_,_,rfl,.inr ⟨by simp,rfl,H.mono (by omega),⟨v,by simp +decide only [sG,g7]⟩⟩⟩)
    ⟨H2.mono (by omega),by omega,b2,⟨v2,by simp +decide only [sG,g7]⟩,by simp +decide only [sG,g1],by simp +decide only [sG,g2],by simp +decide only [sG,g3],by simp (disch:=first|assumption|omega|(simp (disch:=first|assumption|omega) only [sB,reduceAdd,reduceLT,reduceLeDiff,reduceEqDiff,reduceMul,↓reduceIte];done)|fail) only [sA,↓reduceIte,reduceLT,reduceEqDiff,reduceAdd,reduceLeDiff]⟩
  simp (disch:=first|assumption|omega|(simp (disch:=first|assumption|omega) only [sB,reduceAdd,reduceLT,reduceLeDiff,reduceEqDiff,reduceMul,↓reduceIte];done)|fail) only [sA,↓reduceIte,reduceLT,reduceEqDiff,reduceAdd,reduceLeDiff,g7,finish_flat (d := .int .i64 v3) rfl (H3.mono (show n3≤n3+2 by omega))]
  exact ⟨_,rfl⟩
theorem bigE (t:Tm) (hs:saneT t.abs=true) (n:Nat) (h:Hps) (hg:Gd n h):∃ b:Bool,callFn (LX (cFk kL Try.prog)) n h [(D.agg [.int .i64 (t).form,.int .i64 (t).n,.bool (t).hid,.str (t).name,slD 2 encL (t).levels,slD 6 encT (t).kids])] (cFk kL Try.prog 13) = .ok (.bool b) n h:=by
  have hgn:=hg n (Nat.le_refl _)
  have H0:Hp n h (n+1) ((n,(Ob.row 6 [.agg [.int .i64 (t).form,.int .i64 (t).n,.bool (t).hid,.str (t).name,slD 2 encL (t).levels,slD 6 encT (t).kids]]))::h) := (Hp.start hg).box (k:=6) (r:=n) (m:=n+1) (Nat.le_refl _) (by omega) (flatTA t)
  obtain ⟨V,hV⟩:=pick_m (n:=n+1) (P:=fun m v=>callFn (LX (cFk kL Try.prog)) m ((n,(Ob.row 6 [.agg [.int .i64 (t).form,.int .i64 (t).n,.bool (t).hid,.str (t).name,slD 2 encL (t).levels,slD 6 encT (t).kids]]))::h) [(D.agg [.int .i64 (t).form,.int .i64 (t).n,.bool (t).hid,.str (t).name,slD 2 encL (t).levels,slD 6 encT (t).kids]),.int .i64 3000,.int .i64 0] (cFk kL Try.prog 57) = .ok (.int .i64 v) m ((n,(Ob.row 6 [.agg [.int .i64 (t).form,.int .i64 (t).n,.bool (t).hid,.str (t).name,slD 2 encL (t).levels,slD 6 encT (t).kids]]))::h)) (fun m hm2=>countE t hs 3000 0 (by decide) m _ (fun k hk=>H0.good' hm2 k hk))
  rw [f13_eq]; unfold c13; rw [callFn_eq (by rfl)]
  simp (disch:=first|assumption|omega|(simp (disch:=first|assumption|omega) only [sB,reduceAdd,reduceLT,reduceLeDiff,reduceEqDiff,reduceMul,↓reduceIte];done)|fail) only [sA,↓reduceIte,reduceLT,reduceEqDiff,reduceAdd,reduceLeDiff,hV]
  exact ⟨_,rfl⟩
end Go.Proofs.Ytdijijblccmfbaa
