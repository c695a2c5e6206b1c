/- The reference's Exactly of terms that are one. No condition but sizes. -/
import Derived.Test.YtdijijblccmfbaaNTG
import Derived.Test.YtdijijblccmfbaaNTT
import Derived.Test.YtdijijblccmfbaaNLC
set_option linter.unusedSimpArgs false
set_option linter.unusedVariables false
namespace Go.Proofs.Ytdijijblccmfbaa
open Go
open Nat (reduceAdd reduceLT reduceLeDiff reduceEqDiff reduceMul)

set_option maxHeartbeats 4000000 in
theorem exL (xn yn:Int) (xs ys:Sl LV) (e1:xn=yn) (e2:xs.el=ys.el) (hl:xs.el.length≤1000000000000) (n:Nat) (h:Hps) (hg:Gd n h):callFn (LX (cFk kL Try.prog)) n h [(D.agg [.int .i64 (xn),slD 2 encV (xs)]),(D.agg [.int .i64 (yn),slD 2 encV (ys)])] (cFk kL Try.prog 63) = .ok (.bool true) n h:=by
  have hgn:=hg n (Nat.le_refl _)
  have A:=svV (n:=n) (h:=h) xs
  have A':=svV (n:=n) (h:=h) ys
  have s1:=A.len
  have s2:=A.idx
  have s3:=A.okD
  have t1:=A'.len
  have t2:=A'.idx
  have t3:=A'.okD
  have d1:decide (xn=yn)=true:=decide_eq_true e1
  have hly:ys.el.length=xs.el.length:=by rw [e2]
  have d2:decide (((xs.el.length:Nat):Int) = ((ys.el.length:Nat):Int))=true:=decide_eq_true (by omega)
  have H0:Hp n h (n+2) ((n+1,(Ob.row 2 [.agg [.int .i64 (yn),slD 2 encV (ys)]])) :: (n,(Ob.row 2 [.agg [.int .i64 (xn),slD 2 encV (xs)]]))::h) := ((Hp.start hg).box (r:=n) (m:=n+1) (Nat.le_refl _) (by omega) (flatL ⟨xn,xs⟩)).box (r:=n+1) (m:=n+2) (by omega) (by omega) (flatL ⟨yn,ys⟩)
  rw [f63_eq]; unfold c63; rw [callFn_eq (by rfl)]
  simp (disch:=first|assumption|omega|(simp (disch:=first|assumption|omega) only [sB,reduceAdd,reduceLT,reduceLeDiff,reduceEqDiff,reduceMul,↓reduceIte];done)|fail) only [sA,↓reduceIte,reduceLT,reduceEqDiff,reduceAdd,reduceLeDiff,d1,d2,s1,s3,t1,t3]
  generalize hr:LX (cFk kL Try.prog) (.loop l63_0) _ _ _=r
  obtain ⟨x,e,n2,h2,rfl,rfl,H2⟩:=loop_up hr xs.el.length
    (fun i e n' h'=>Hp n h n' h'∧n+2≤n'∧getO h' n = (Ob.row 2 [.agg [.int .i64 (xn),slD 2 encV (xs)]])∧getO h' (n+1) = (Ob.row 2 [.agg [.int .i64 (yn),slD 2 encV (ys)]])∧get (po 2) e = .ptr n 0 0∧get (po 3) e = .ptr (n+1) 0 0∧get (po 5) e = .int .i64 (i:Nat))
    (fun x e n' h'=>x = .exit 0∧Hp n h n' h')
    (by
      rintro e n' h' ⟨H,p1,b2,b3,g2,g3,g5⟩
      unfold l63_0
      simp (disch:=first|assumption|omega|(simp (disch:=first|assumption|omega) only [sB,reduceAdd,reduceLT,reduceLeDiff,reduceEqDiff,reduceMul,↓reduceIte];done)|fail) only [sA,↓reduceIte,reduceLT,reduceEqDiff,reduceAdd,reduceLeDiff,g2,g3,g5,b2,b3,s1,s3]
      exact ⟨_,_,_,_,rfl,by simp,rfl,H.mono (by omega)⟩)
    (by
      rintro i e n' h' hi ⟨H,p1,b2,b3,g2,g3,g5⟩
      have hi':i < ys.el.length:=by omega
      have s4:=A.at H
      have t4:=A'.at H
      have a2:decide (xs.el[i]=ys.el[i])=true:=decide_eq_true (by simp [e2])
      unfold l63_0
      simp (disch:=first|assumption|omega|(simp (disch:=first|assumption|omega) only [sB,reduceAdd,reduceLT,reduceLeDiff,reduceEqDiff,reduceMul,↓reduceIte];done)|fail) only [sA,↓reduceIte,reduceLT,reduceEqDiff,reduceAdd,reduceLeDiff,g2,g3,g5,b2,b3,s1,s2,s3,s4,t1,t2,t3,t4,eqV,a2]
      exact ⟨_,_,_,_,rfl,.inl ⟨rfl,H.mono (by omega),by omega,b2,b3,by simp +decide only [sG,g2],by simp +decide only [sG,g3],by simp +decide only [sG]⟩⟩)
    ⟨H0.mono (by omega),by omega,by rw [getO_tl (by omega),getO_hd],by rw [getO_hd],by simp +decide only [sG],by simp +decide only [sG],by simp (disch:=first|assumption|omega|(simp (disch:=first|assumption|omega) only [sB,reduceAdd,reduceLT,reduceLeDiff,reduceEqDiff,reduceMul,↓reduceIte];done)|fail) only [sA,↓reduceIte,reduceLT,reduceEqDiff,reduceAdd,reduceLeDiff]⟩
  simp (disch:=first|assumption|omega|(simp (disch:=first|assumption|omega) only [sB,reduceAdd,reduceLT,reduceLeDiff,reduceEqDiff,reduceMul,↓reduceIte];done)|fail) only [sA,↓reduceIte,reduceLT,reduceEqDiff,reduceAdd,reduceLeDiff,finish_flat (d := .bool true) rfl (H2.mono (show n2≤n2+1 by omega))]

def sizeT1 (t:Trm):Bool:=allT (fun t=>decide (t.levels.length≤1000000000∧t.kids.length≤1000000000) && t.levels.all fun x=>decide (x.v.length≤1000000000)) t
theorem size1_tm {t:Tm} (h:sizeT1 t.abs=true) : (t.levels.el.length≤1000000000∧t.kids.el.length≤1000000000) ∧ (∀ x,x∈t.levels.el→x.vs.el.length≤1000000000)∧∀ k,k∈t.kids.el→sizeT1 k.abs=true:=by
  unfold sizeT1 at h
  rw [allT_eq,allTs_eq,abs_levels,abs_kids,List.length_map,List.length_map,List.all_map,List.all_map,Bool.and_eq_true,Bool.and_eq_true,decide_eq_true_iff,List.all_eq_true,List.all_eq_true] at h
  exact ⟨h.1.1,fun x hx=>of_decide_eq_true (h.1.2 x hx),h.2⟩
set_option maxHeartbeats 8000000 in
set_option maxRecDepth 8000 in
theorem exT:∀ a:Tm,sizeT1 a.abs=true→∀ b:Tm,a.abs=b.abs→∀ (n:Nat) (h:Hps),Gd n h→callFn (LX (cFk kL Try.prog)) n h [(D.agg [.int .i64 (a).form,.int .i64 (a).n,.bool (a).hid,.str (a).name,slD 2 encL (a).levels,slD 6 encT (a).kids]),(D.agg [.int .i64 (b).form,.int .i64 (b).n,.bool (b).hid,.str (b).name,slD 2 encL (b).levels,slD 6 encT (b).kids])] (cFk kL Try.prog 20) = .ok (.bool true) n h:=by
  refine Tm.ind ?_
  intro a ih hs b hab n h hg
  obtain ⟨⟨hll,hkl⟩,hlv,hks⟩:=size1_tm hs
  have hgn:=hg n (Nat.le_refl _)
  rw [abs_eq,abs_eq b] at hab
  injection hab with e1 e2 e3 e4 e5 e6
  have l5:a.levels.el.length=b.levels.el.length:=by simpa using congrArg List.length e5
  have l6:a.kids.el.length=b.kids.el.length:=by simpa using congrArg List.length e6
  have d1:decide (a.form=b.form)=true:=decide_eq_true e1
  have d2:decide (a.n=b.n)=true:=decide_eq_true e2
  have d3 : (a.hid == b.hid)=true:=by rw [e3]; exact beq_self_eq_true _
  have d4:decide (a.name=b.name)=true:=decide_eq_true e4
  have d5:decide (((a.levels.el.length:Nat):Int) = ((b.levels.el.length:Nat):Int))=true:=decide_eq_true (by omega)
  have d6:decide (((a.kids.el.length:Nat):Int) = ((b.kids.el.length:Nat):Int))=true:=decide_eq_true (by omega)
  have H0:Hp n h (n+2) ((n+1,(Ob.row 6 [.agg [.int .i64 (b).form,.int .i64 (b).n,.bool (b).hid,.str (b).name,slD 2 encL (b).levels,slD 6 encT (b).kids]])) :: (n,(Ob.row 6 [.agg [.int .i64 (a).form,.int .i64 (a).n,.bool (a).hid,.str (a).name,slD 2 encL (a).levels,slD 6 encT (a).kids]]))::h) := ((Hp.start hg).box (r:=n) (m:=n+1) (Nat.le_refl _) (by omega) (flatTA a)).box (r:=n+1) (m:=n+2) (by omega) (by omega) (flatTA b)
  rw [f20_eq]; unfold c20; rw [callFn_eq (by rfl)]
  simp (disch:=first|assumption|omega|(simp (disch:=first|assumption|omega) only [sB,reduceAdd,reduceLT,reduceLeDiff,reduceEqDiff,reduceMul,↓reduceIte];done)|fail) only [sA,↓reduceIte,reduceLT,reduceEqDiff,reduceAdd,reduceLeDiff,d1,d2,d3,d4,d5,d6,str_neq]
  generalize hr:LX (cFk kL Try.prog) (.loop l20_0) _ _ _=r
  obtain ⟨x,e,n2,h2,rfl,rfl,H2,p2,b2,b3,g2,g3⟩:=loop_up hr a.levels.el.length
    (fun i e n' h'=>Hp n h n' h'∧n+2≤n'∧getO h' n = (Ob.row 6 [.agg [.int .i64 (a).form,.int .i64 (a).n,.bool (a).hid,.str (a).name,slD 2 encL (a).levels,slD 6 encT (a).kids]])∧getO h' (n+1) = (Ob.row 6 [.agg [.int .i64 (b).form,.int .i64 (b).n,.bool (b).hid,.str (b).name,slD 2 encL (b).levels,slD 6 encT (b).kids]])∧get (po 2) e = .ptr n 0 0∧get (po 3) e = .ptr (n+1) 0 0∧get (po 5) e = .int .i64 (i:Nat))
    (fun x e n' h'=>x = .exit 0∧Hp n h n' h'∧n+2≤n'∧getO h' n = (Ob.row 6 [.agg [.int .i64 (a).form,.int .i64 (a).n,.bool (a).hid,.str (a).name,slD 2 encL (a).levels,slD 6 encT (a).kids]])∧getO h' (n+1) = (Ob.row 6 [.agg [.int .i64 (b).form,.int .i64 (b).n,.bool (b).hid,.str (b).name,slD 2 encL (b).levels,slD 6 encT (b).kids]])∧get (po 2) e = .ptr n 0 0∧get (po 3) e = .ptr (n+1) 0 0)
    (by
      rintro e n' h' ⟨H,p1,b2,b3,g2,g3,g5⟩
      unfold l20_0
      simp (disch:=first|assumption|omega|(simp (disch:=first|assumption|omega) only [sB,reduceAdd,reduceLT,reduceLeDiff,reduceEqDiff,reduceMul,↓reduceIte];done)|fail) only [sA,↓reduceIte,reduceLT,reduceEqDiff,reduceAdd,reduceLeDiff,g2,g3,g5,b2,b3]
      exact ⟨_,_,_,_,rfl,by simp,rfl,H.mono (by omega),by omega,b2,b3,by simp +decide only [sG,g2],by simp +decide only [sG,g3]⟩)
    (by
      rintro i e n' h' hi ⟨H,p1,b2,b3,g2,g3,g5⟩
      have hi':i < b.levels.el.length:=by omega
      have hG:∀ m,n'≤m→Gd m h':=fun m hm=>H.good' hm
      have hky:∀ m,n'≤m→keysFrom m h'=[]:=fun m hm=>keys_gd (hG m hm)
      have hsi:=hlv _ (List.getElem_mem hi)
      have ei:a.levels.el[i].lev=b.levels.el[i].lev:=by
        have:=congrArg (fun l:List Lev=>l[i]?) e5
        simpa [hi,hi'] using this
      generalize hW:a.levels.el[i]=W at hsi ei
      generalize hW':b.levels.el[i]=W' at ei
      obtain ⟨an,av⟩:=W
      obtain ⟨bn,bv⟩:=W'
      injection ei with f1 f2
      have c1:=exL an bn av bv f1 f2 (by have:av.el.length≤1000000000:=hsi; omega)
      unfold l20_0
      simp (disch:=first|assumption|omega|(simp (disch:=first|assumption|omega) only [sB,reduceAdd,reduceLT,reduceLeDiff,reduceEqDiff,reduceMul,↓reduceIte,hG,gd_nil,hi'];done)|fail) only [sA,↓reduceIte,reduceLT,reduceEqDiff,reduceAdd,reduceLeDiff,g2,g3,g5,b2,b3,hW,hW',encL,c1,hky,hG,gd_nil,hi']
      exact ⟨_,_,_,_,rfl,.inl ⟨rfl,H.mono (by omega),by omega,b2,b3,by simp +decide only [sG,g2],by simp +decide only [sG,g3],by simp +decide only [sG]⟩⟩)
    ⟨H0.mono (by omega),by omega,by rw [getO_tl (by omega),getO_hd],by rw [getO_hd],by simp +decide only [sG],by simp +decide only [sG],by simp (disch:=first|assumption|omega|(simp (disch:=first|assumption|omega) only [sB,reduceAdd,reduceLT,reduceLeDiff,reduceEqDiff,reduceMul,↓reduceIte];done)|fail) only [sA,↓reduceIte,reduceLT,reduceEqDiff,reduceAdd,reduceLeDiff]⟩
  simp (disch:=first|assumption|omega|(simp (disch:=first|assumption|omega) only [sB,reduceAdd,reduceLT,reduceLeDiff,reduceEqDiff,reduceMul,↓reduceIte];done)|fail) only [sA,↓reduceIte,reduceLT,reduceEqDiff,reduceAdd,reduceLeDiff,g2,g3]
  generalize hr:LX (cFk kL Try.prog) (.loop l20_1) _ _ _=r
  obtain ⟨x,e3,n3,h3,rfl,rfl,H3⟩:=loop_up hr a.kids.el.length
    (fun i e n' h'=>Hp n h n' h'∧n+2≤n'∧getO h' n = (Ob.row 6 [.agg [.int .i64 (a).form,.int .i64 (a).n,.bool (a).hid,.str (a).name,slD 2 encL (a).levels,slD 6 encT (a).kids]])∧getO h' (n+1) = (Ob.row 6 [.agg [.int .i64 (b).form,.int .i64 (b).n,.bool (b).hid,.str (b).name,slD 2 encL (b).levels,slD 6 encT (b).kids]])∧get (po 2) e = .ptr n 0 0∧get (po 3) e = .ptr (n+1) 0 0∧get (po 7) e = .int .i64 (i:Nat))
    (fun x e n' h'=>x = .exit 2∧Hp n h n' h')
    (by
      rintro e n' h' ⟨H,p1,b2,b3,g2,g3,g7⟩
      unfold l20_1
      simp (disch:=first|assumption|omega|(simp (disch:=first|assumption|omega) only [sB,reduceAdd,reduceLT,reduceLeDiff,reduceEqDiff,reduceMul,↓reduceIte];done)|fail) only [sA,↓reduceIte,reduceLT,reduceEqDiff,reduceAdd,reduceLeDiff,g2,g3,g7,b2,b3]
      exact ⟨_,_,_,_,rfl,by simp,rfl,H.mono (by omega)⟩)
    (by
      rintro i e n' h' hi ⟨H,p1,b2,b3,g2,g3,g7⟩
      have hi':i < b.kids.el.length:=by omega
      have hG:∀ m,n'≤m→Gd m h':=fun m hm=>H.good' hm
      have hky:∀ m,n'≤m→keysFrom m h'=[]:=fun m hm=>keys_gd (hG m hm)
      have ei:a.kids.el[i].abs=b.kids.el[i].abs:=by
        have:=congrArg (fun l:List Trm=>l[i]?) e6
        simpa [hi,hi'] using this
      have c1:=ih a.kids.el[i] (List.getElem_mem hi) (hks _ (List.getElem_mem hi)) b.kids.el[i] ei
      unfold l20_1
      simp (disch:=first|assumption|omega|(simp (disch:=first|assumption|omega) only [sB,reduceAdd,reduceLT,reduceLeDiff,reduceEqDiff,reduceMul,↓reduceIte,hG,gd_nil,hi'];done)|fail) only [sA,↓reduceIte,reduceLT,reduceEqDiff,reduceAdd,reduceLeDiff,g2,g3,g7,b2,b3,encT_eq,c1,hky,hG,gd_nil,hi']
      exact ⟨_,_,_,_,rfl,.inl ⟨rfl,H.mono (by omega),by omega,b2,b3,by simp +decide only [sG,g2],by simp +decide only [sG,g3],by simp +decide only [sG]⟩⟩)
    ⟨H2.mono (by omega),by omega,b2,b3,by simp +decide only [sG,g2],by simp +decide only [sG,g3],by simp (disch:=first|assumption|omega|(simp (disch:=first|assumption|omega) only [sB,reduceAdd,reduceLT,reduceLeDiff,reduceEqDiff,reduceMul,↓reduceIte];done)|fail) only [sA,↓reduceIte,reduceLT,reduceEqDiff,reduceAdd,reduceLeDiff]⟩
  simp (disch:=first|assumption|omega|(simp (disch:=first|assumption|omega) only [sB,reduceAdd,reduceLT,reduceLeDiff,reduceEqDiff,reduceMul,↓reduceIte];done)|fail) only [sA,↓reduceIte,reduceLT,reduceEqDiff,reduceAdd,reduceLeDiff,finish_flat (d := .bool true) rfl (H3.mono (show n3≤n3+1 by omega))]
end Go.Proofs.Ytdijijblccmfbaa
