/- The canonical form of a level, as the program makes it. No condition. -/
import Derived.Test.YtpbpmpabndgeeaaLP
set_option linter.unusedSimpArgs false
set_option linter.unusedVariables false
namespace Go.Proofs.Ytpbpmpabndgeeaa
open Go
open Nat (reduceAdd reduceLT reduceLeDiff reduceEqDiff reduceMul)

theorem lvJoined (n:Nat) (h:Hps) (hg:∀ k,n≤k→GoodAt k h) (a b:Sl LV) (ha:a.el.length+b.el.length < 1000000000000) :
    callFn (LX (cF Try.prog)) n h [slD 2 encV a,slD 2 encV b,.fn 102 [] [],.fn 103 [] []] (cF Try.prog 101) = .ok (slD 2 encV (Sl.app (merge a.el b.el))) n h:=by
  have hgn:=hg n (Nat.le_refl _)
  have cN:∀ m (p:LV),callFn (LX (cF Try.prog)) m [] [.agg [.int .i64 p.1,.int .i64 p.2]] (cF Try.prog 102) = .ok (.int .i64 p.1) m []:=fun m p=>lvNumber m [] (fun _ _=>good_nil) p
  have cG:∀ m (p q:LV),callFn (LX (cF Try.prog)) m [] [.agg [.int .i64 p.1,.int .i64 p.2],.agg [.int .i64 q.1,.int .i64 q.2]] (cF Try.prog 103) = .ok (.agg [.int .i64 (grt p q).1,.int .i64 (grt p q).2]) m []:=fun m p q=>lvGreater m [] (fun _ _=>good_nil) p q
  rw [f101_eq]; unfold c101; rw [callFn_eq (by rfl)]
  simp (disch:=first|assumption|omega|(simp (disch:=first|assumption|omega) only [sB,reduceAdd,reduceLT,reduceLeDiff,reduceEqDiff,reduceMul,↓reduceIte];done)|fail) only [sA,↓reduceIte,reduceLT,reduceEqDiff,reduceAdd,reduceLeDiff]
  generalize hr:LX (cF Try.prog) (.loop l101_0) _ _ _=r
  obtain ⟨x,e2,n2,h2,rfl,rfl,H2,a2,b2,l2,d2,q0,q1,q2,B2,g0,g1,g9⟩:=loop_at hr
    (fun j e n' h'=>Hp n h n' h'∧∃ (a' b':Sl LV) (l:List LV) (d:D) (f:Nat),a'.el.length+b'.el.length=j∧j≤f∧l.length+j≤a.el.length+b.el.length∧l++mergeF f a'.el b'.el=merge a.el b.el∧Bld 2 encV n l h' d ∧
      get (po 0) e=slD 2 encV a'∧get (po 1) e=slD 2 encV b'∧get (po 2) e = .fn 102 [] []∧get (po 3) e = .fn 103 [] []∧get (po 9) e=d)
    (fun x e n' h'=>x = .exit 0∧Hp n h n' h'∧∃ (a' b':Sl LV) (l:List LV) (d:D),(a'.el=[]∨b'.el=[])∧l.length + (a'.el.length+b'.el.length)≤a.el.length+b.el.length∧l ++ (a'.el++b'.el)=merge a.el b.el∧Bld 2 encV n l h' d ∧
      get (po 0) e=slD 2 encV a'∧get (po 1) e=slD 2 encV b'∧get (po 9) e=d)
    (by
      rintro j e n' h' ⟨H,a',b',l,d,f,hj,hf,hl,hm,hB,g0,g1,g2,g3,g9⟩
      unfold l101_0
      by_cases h1:a'.el.length=0
      · have e1:a'.el=[]:=List.length_eq_zero_iff.1 h1
        rw [e1,mergeF_nil1] at hm
        simp (disch:=first|assumption|omega|(simp (disch:=first|assumption|omega) only [sB,reduceAdd,reduceLT,reduceLeDiff,reduceEqDiff,reduceMul,↓reduceIte];done)|fail) only [sA,↓reduceIte,reduceLT,reduceEqDiff,reduceAdd,reduceLeDiff,g0,g1,g2,g3,g9]
        exact ⟨_,_,_,_,rfl,.inr ⟨by simp,rfl,H.mono (by omega),a',b',l,d,.inl e1,by omega,by rw [e1]; exact hm,hB,by simp +decide only [sG,g0],by simp +decide only [sG,g1],by simp +decide only [sG,g9]⟩⟩
      · by_cases h2:b'.el.length=0
        · have e1:b'.el=[]:=List.length_eq_zero_iff.1 h2
          rw [e1,mergeF_nil2] at hm
          simp (disch:=first|assumption|omega|(simp (disch:=first|assumption|omega) only [sB,reduceAdd,reduceLT,reduceLeDiff,reduceEqDiff,reduceMul,↓reduceIte];done)|fail) only [sA,↓reduceIte,reduceLT,reduceEqDiff,reduceAdd,reduceLeDiff,g0,g1,g2,g3,g9]
          exact ⟨_,_,_,_,rfl,.inr ⟨by simp,rfl,H.mono (by omega),a',b',l,d,.inr e1,by omega,by rw [e1,List.append_nil]; exact hm,hB,by simp +decide only [sG,g0],by simp +decide only [sG,g1],by simp +decide only [sG,g9]⟩⟩
        · obtain ⟨f,rfl⟩:∃ i,f=i+1:=⟨f - 1,by omega⟩
          have ea:=el_hd (l:=a'.el) (by omega)
          have eb:=el_hd (l:=b'.el) (by omega)
          have da : (a'.el.drop 1).length=a'.el.length - 1:=by rw [List.length_drop]
          have db : (b'.el.drop 1).length=b'.el.length - 1:=by rw [List.length_drop]
          have hm':=hm
          rw [ea,eb,mergeF_cons,← ea,← eb] at hm'
          have sz : (l.length+1)*16≤140737488355328:=by omega
          have cN2:∀ m (p:LV),n'≤m→callFn (LX (cF Try.prog)) m h' [.agg [.int .i64 p.1,.int .i64 p.2]] (cF Try.prog 102) = .ok (.int .i64 p.1) m h':=fun m p hm=>lvNumber m h' (H.good' hm) p
          have cG2:∀ m (p q:LV),n'≤m→callFn (LX (cF Try.prog)) m h' [.agg [.int .i64 p.1,.int .i64 p.2],.agg [.int .i64 q.1,.int .i64 q.2]] (cF Try.prog 103) = .ok (.agg [.int .i64 (grt p q).1,.int .i64 (grt p q).2]) m h':=fun m p q hm=>lvGreater m h' (H.good' hm) p q
          by_cases h3:a'.el[0].1 < b'.el[0].1
          · rw [if_pos h3] at hm'
            obtain ⟨D',H',A1,A2,A3⟩:=app_bld1 hB H lowV a'.el[0] sz
            simp only [encV] at A1
            simp (disch:=first|assumption|omega|(simp (disch:=first|assumption|omega) only [sB,reduceAdd,reduceLT,reduceLeDiff,reduceEqDiff,reduceMul,↓reduceIte];done)|fail) only [sA,↓reduceIte,reduceLT,reduceEqDiff,reduceAdd,reduceLeDiff,g0,g1,g2,g3,g9,encV,cN,cN2,A1]
            exact ⟨_,_,_,_,rfl,.inl ⟨rfl,j - 1,by omega,(A3 _ (by omega)).mono (by omega),a'.cut 1 a'.el.length,b',l++[a'.el[0]],_,f,by rw [cut_tl,da]; omega,by omega,by simp; omega,by rw [cut_tl,List.append_assoc]; exact hm',A2 _ (by omega),by simp +decide only [sG],by simp +decide only [sG,g1],by simp +decide only [sG,g2],by simp +decide only [sG,g3],by simp +decide only [sG]⟩⟩
          · rw [if_neg h3] at hm'
            by_cases h4:b'.el[0].1 < a'.el[0].1
            · rw [if_pos h4] at hm'
              obtain ⟨D',H',A1,A2,A3⟩:=app_bld1 hB H lowV b'.el[0] sz
              simp only [encV] at A1
              simp (disch:=first|assumption|omega|(simp (disch:=first|assumption|omega) only [sB,reduceAdd,reduceLT,reduceLeDiff,reduceEqDiff,reduceMul,↓reduceIte];done)|fail) only [sA,↓reduceIte,reduceLT,reduceEqDiff,reduceAdd,reduceLeDiff,g0,g1,g2,g3,g9,encV,cN,cN2,A1]
              exact ⟨_,_,_,_,rfl,.inl ⟨rfl,j - 1,by omega,(A3 _ (by omega)).mono (by omega),a',b'.cut 1 b'.el.length,l++[b'.el[0]],_,f,by rw [cut_tl,db]; omega,by omega,by simp; omega,by rw [cut_tl,List.append_assoc]; exact hm',A2 _ (by omega),by simp +decide only [sG,g0],by simp +decide only [sG],by simp +decide only [sG,g2],by simp +decide only [sG,g3],by simp +decide only [sG]⟩⟩
            · rw [if_neg h4] at hm'
              obtain ⟨D',H',A1,A2,A3⟩:=app_bld1 hB H lowV (grt a'.el[0] b'.el[0]) sz
              simp only [encV] at A1
              simp (disch:=first|assumption|omega|(simp (disch:=first|assumption|omega) only [sB,reduceAdd,reduceLT,reduceLeDiff,reduceEqDiff,reduceMul,↓reduceIte];done)|fail) only [sA,↓reduceIte,reduceLT,reduceEqDiff,reduceAdd,reduceLeDiff,g0,g1,g2,g3,g9,encV,cN,cN2,cG,cG2,A1]
              exact ⟨_,_,_,_,rfl,.inl ⟨rfl,j - 2,by omega,(A3 _ (by omega)).mono (by omega),a'.cut 1 a'.el.length,b'.cut 1 b'.el.length,l++[grt a'.el[0] b'.el[0]],_,f,by rw [cut_tl,cut_tl,da,db]; omega,by omega,by simp; omega,by rw [cut_tl,cut_tl,List.append_assoc]; exact hm',A2 _ (by omega),by simp +decide only [sG],by simp +decide only [sG],by simp +decide only [sG,g2],by simp +decide only [sG,g3],by simp +decide only [sG]⟩⟩)
    (a.el.length+b.el.length) ⟨(Hp.start hg).mono (by omega),a,b,[],.nils,a.el.length+b.el.length,rfl,Nat.le_refl _,by simp,rfl,.inl ⟨rfl,rfl⟩,by simp +decide only [sG],by simp +decide only [sG],by simp +decide only [sG],by simp +decide only [sG],by simp +decide only [sG]⟩
  obtain ⟨D1,H1,A1⟩:=app_bld (b:=16) B2 H2 lowV a2.el (by omega)
  have B1:=fun m hm => (A1 m hm).2.1
  have P1:=fun m hm => (A1 m hm).2.2
  have E1:=fun m hm => (A1 m hm).1
  obtain ⟨D3,H3,A3⟩:=app_bld (b:=16) (B1 (n2+2) (by omega)) (P1 (n2+2) (by omega)) lowV b2.el (by simp; omega)
  have E3:=fun m hm => (A3 m hm).1
  have F3:=finish_bld elemV (A3 (n2+4) (by omega)).2.1 ((A3 (n2+4) (by omega)).2.2.mono (show n2+4+1≤n2+6 by omega))
  rw [List.append_assoc,q2] at F3
  simp (disch:=first|assumption|omega|(simp (disch:=first|assumption|omega) only [sB,reduceAdd,reduceLT,reduceLeDiff,reduceEqDiff,reduceMul,↓reduceIte];done)|fail) only [sA,↓reduceIte,reduceLT,reduceEqDiff,reduceAdd,reduceLeDiff,g0,g1,g9,E1,E3,F3]

section
variable (n:Nat) (h:Hps) (hg:∀ k,n≤k→GoodAt k h)
include hg
theorem lvNorm0 (N:Int) (d:D) (l:List LV) (ad:Nat→D) (S:Sv 2 encV n h d l ad) (hs:l.length < 1000000000000):callFn (LX (cF Try.prog)) n h [.agg [.int .i64 N,d]] (cF Try.prog 99) = .ok (D.agg [.int .i64 (Lev.norm ⟨N,l⟩).n,slD 2 encV (Sl.app (Lev.norm ⟨N,l⟩).v)]) n h:=by
  have hgn:=hg n (Nat.le_refl _)
  have s1:=S.len
  have s2:=S.idx
  have s3:=S.okD
  have H0:Hp n h (n+2) ((n+1,(Ob.row 2 [.agg [.int .i64 0,.nils]])) :: (n,.row 2 [.agg [.int .i64 N,d]])::h) := ((Hp.start hg).cons (r:=n) (m:=n+1) (Nat.le_refl _) (by omega) (fun k hk=>S.box2 (by omega))).box (m:=n+2) (r:=n+1) (by omega) (by omega) rfl
  generalize hR : (D.agg [.int .i64 (Lev.norm ⟨N,l⟩).n,slD 2 encV (Sl.app (Lev.norm ⟨N,l⟩).v)])=R
  rw [f99_eq]; unfold c99; rw [callFn_eq (by rfl)]
  simp (disch:=first|assumption|omega|(simp (disch:=first|assumption|omega) only [sB,reduceAdd,reduceLT,reduceLeDiff,reduceEqDiff,reduceMul,↓reduceIte];done)|fail) only [sA,↓reduceIte,reduceLT,reduceEqDiff,reduceAdd,reduceLeDiff,s1,s3]
  generalize hr:LX (cF Try.prog) (.loop l99_0) _ _ _=r
  obtain ⟨x,e2,n2,h2,rfl,rfl,H2,p2,b1,b2,g1,g2,g3⟩:=loop_up hr l.length
    (fun i e n' h'=>Hp n h n' h'∧n+2≤n'∧getO h' n = .row 2 [.agg [.int .i64 N,d]]∧getO h' (n+1) = (Ob.row 2 [.agg [.int .i64 0,.nils]])∧get (po 1) e = .ptr n 0 0∧get (po 2) e = .ptr (n+1) 0 0 ∧
      get (po 3) e=slD 2 encV (Sl.app (nfL (l.take i)))∧get (po 10) e=d∧get (po 11) e = .int .i64 (l.length:Nat)∧get (po 12) e = .int .i64 (i:Nat))
    (fun x e n' h'=>x = .exit 0∧Hp n h n' h'∧n+2≤n'∧getO h' n = .row 2 [.agg [.int .i64 N,d]]∧getO h' (n+1) = (Ob.row 2 [.agg [.int .i64 0,.nils]])∧get (po 1) e = .ptr n 0 0∧get (po 2) e = .ptr (n+1) 0 0 ∧
      get (po 3) e=slD 2 encV (Sl.app (nfL l)))
    (by
      rintro e n' h' ⟨H,p1,b1,b2,g1,g2,g3,g10,g11,g12⟩
      unfold l99_0
      rw [List.take_length] at g3
      simp (disch:=first|assumption|omega|(simp (disch:=first|assumption|omega) only [sB,reduceAdd,reduceLT,reduceLeDiff,reduceEqDiff,reduceMul,↓reduceIte];done)|fail) only [sA,↓reduceIte,reduceLT,reduceEqDiff,reduceAdd,reduceLeDiff,g3,g10,g11,g12]
      exact ⟨_,_,_,_,rfl,by simp,rfl,H.mono (by omega),by omega,b1,b2,by simp +decide only [sG,g1],by simp +decide only [sG,g2],by simp +decide only [sG,g3]⟩)
    (by
      rintro i e n' h' hi ⟨H,p1,b1,b2,g1,g2,g3,g10,g11,g12⟩
      unfold l99_0
      have H1:Hp n h (n'+4) ((n'+3,.row 2 [encV l[i]])::h'):=H.box (by omega) (by omega) rfl
      have s4:=S.at H
      have hlen:=nf_len (nfL_nf (l.take i))
      rw [List.length_take] at hlen
      have c1:∀ m,n'+4≤m→callFn (LX (cF Try.prog)) m ((n'+3,.row 2 [.agg [.int .i64 l[i].1,.int .i64 l[i].2]])::h') [slD 2 encV (Sl.app (nfL (l.take i))),.sl 2 [.agg [.int .i64 l[i].1,.int .i64 l[i].2]] [] true,.fn 102 [] [],.fn 103 [] []] (cF Try.prog 101) =
          .ok (slD 2 encV (Sl.app (nfL (l.take (i+1))))) m ((n'+3,.row 2 [.agg [.int .i64 l[i].1,.int .i64 l[i].2]])::h'):=fun m hm=>by
        rw [take_snoc hi,nfL_app]
        exact lvJoined m _ (H1.good' hm) (Sl.app (nfL (l.take i))) ⟨false,true,[l[i]],[]⟩ (by show (nfL (l.take i)).length+1 < _; omega)
      simp (disch:=first|assumption|omega|(simp (disch:=first|assumption|omega) only [sB,reduceAdd,reduceLT,reduceLeDiff,reduceEqDiff,reduceMul,↓reduceIte];done)|fail) only [sA,↓reduceIte,reduceLT,reduceEqDiff,reduceAdd,reduceLeDiff,g3,g10,g11,g12,s2,s4,encV,c1]
      exact ⟨_,_,_,_,rfl,.inl ⟨rfl,H1.mono (by omega),by omega,getO_keep b1 (by omega),getO_keep b2 (by omega),by simp +decide only [sG,g1],by simp +decide only [sG,g2],by simp +decide only [sG],by simp +decide only [sG,g10],by simp +decide only [sG,g11],by simp +decide only [sG]⟩⟩)
    ⟨H0.mono (by omega),by omega,by simp (disch:=first|assumption|omega|(simp (disch:=first|assumption|omega) only [sB,reduceAdd,reduceLT,reduceLeDiff,reduceEqDiff,reduceMul,↓reduceIte];done)|fail) only [sA,↓reduceIte,reduceLT,reduceEqDiff,reduceAdd,reduceLeDiff],by simp (disch:=first|assumption|omega|(simp (disch:=first|assumption|omega) only [sB,reduceAdd,reduceLT,reduceLeDiff,reduceEqDiff,reduceMul,↓reduceIte];done)|fail) only [sA,↓reduceIte,reduceLT,reduceEqDiff,reduceAdd,reduceLeDiff],by simp +decide only [sG],by simp +decide only [sG],by simp +decide only [sG]; rfl,by simp +decide only [sG],by simp +decide only [sG],by simp (disch:=first|assumption|omega|(simp (disch:=first|assumption|omega) only [sB,reduceAdd,reduceLT,reduceLeDiff,reduceEqDiff,reduceMul,↓reduceIte];done)|fail) only [sA,↓reduceIte,reduceLT,reduceEqDiff,reduceAdd,reduceLeDiff]⟩
  have hlen:=nf_len (nfL_nf l)
  generalize hv:Sl.app (nfL l)=v at *
  have hve:nfL l=v.el:=by rw [← hv]; rfl
  rw [hve] at hlen
  simp (disch:=first|assumption|omega|(simp (disch:=first|assumption|omega) only [sB,reduceAdd,reduceLT,reduceLeDiff,reduceEqDiff,reduceMul,↓reduceIte];done)|fail) only [sA,↓reduceIte,reduceLT,reduceEqDiff,reduceAdd,reduceLeDiff,g1,g2,g3,b1,b2]
  generalize hr:LX (cF Try.prog) (.loop l99_1) _ _ _=r
  obtain ⟨x,e3,n3,h3,rfl,rfl,H3,p3,b3,q,q1,q2,b4,g2,g6⟩:=loop_up hr v.el.length
    (fun i e n' h'=>Hp n h n' h'∧n+2≤n'∧getO h' (n+1) = .row 2 [.agg [.int .i64 0,.nils]]∧∃ q,n+2≤q∧q < n'∧getO h' q = .row 2 [.agg [.int .i64 (zn N (v.el.take i)),slD 2 encV v]]∧get (po 2) e = .ptr (n+1) 0 0∧get (po 6) e = .ptr q 0 0 ∧
      get (po 25) e=slD 2 encV v∧get (po 26) e = .int .i64 (v.el.length:Nat)∧get (po 27) e = .int .i64 (i:Nat))
    (fun x e n' h'=>x = .exit 2∧Hp n h n' h'∧n+2≤n'∧getO h' (n+1) = .row 2 [.agg [.int .i64 0,.nils]]∧∃ q,n+2≤q∧q < n'∧getO h' q = .row 2 [.agg [.int .i64 (zn N v.el),slD 2 encV v]]∧get (po 2) e = .ptr (n+1) 0 0∧get (po 6) e = .ptr q 0 0)
    (by
      rintro e n' h' ⟨H,p1,b2,q,q1,q2,b6,g2,g6,g25,g26,g27⟩
      unfold l99_1
      rw [List.take_length] at b6
      simp (disch:=first|assumption|omega|(simp (disch:=first|assumption|omega) only [sB,reduceAdd,reduceLT,reduceLeDiff,reduceEqDiff,reduceMul,↓reduceIte];done)|fail) only [sA,↓reduceIte,reduceLT,reduceEqDiff,reduceAdd,reduceLeDiff,g25,g26,g27]
      exact ⟨_,_,_,_,rfl,by simp,rfl,H.mono (by omega),by omega,b2,q,q1,by omega,b6,by simp +decide only [sG,g2],by simp +decide only [sG,g6]⟩)
    (by
      rintro i e n' h' hi ⟨H,p1,b2,q,q1,q2,b6,g2,g6,g25,g26,g27⟩
      unfold l99_1
      have H1:Hp n h (n'+4) ((n'+3,.row 2 [encV v.el[i]])::h'):=H.box (by omega) (by omega) rfl
      have hz:=zn_snoc N (v.el.take i) v.el[i]
      rw [← take_snoc hi] at hz
      by_cases hc:zn N (v.el.take i)≤v.el[i].2
      · rw [if_pos hc] at hz
        simp (disch:=first|assumption|omega|(simp (disch:=first|assumption|omega) only [sB,reduceAdd,reduceLT,reduceLeDiff,reduceEqDiff,reduceMul,↓reduceIte];done)|fail) only [sA,↓reduceIte,reduceLT,reduceEqDiff,reduceAdd,reduceLeDiff,g2,g6,g25,g26,g27,encV,b6]
        exact ⟨_,_,_,_,rfl,.inl ⟨rfl,((H.set (r:=q) (by omega) (fun k _=>lowO_one (low_flat (flatL ⟨0,v⟩)))).box (r:=n'+3) (m:=n'+4) (by omega) (by omega) rfl).mono (by omega),by omega,getO_keep (getO_set2 b6 b2 (by omega)) (by omega),q,q1,by omega,by rw [hz]; exact getO_keep (getO_set1 b6) (by omega),by simp +decide only [sG,g2],by simp +decide only [sG,g6],by simp +decide only [sG,g25],by simp +decide only [sG,g26],by simp +decide only [sG]⟩⟩
      · rw [if_neg hc] at hz
        simp (disch:=first|assumption|omega|(simp (disch:=first|assumption|omega) only [sB,reduceAdd,reduceLT,reduceLeDiff,reduceEqDiff,reduceMul,↓reduceIte];done)|fail) only [sA,↓reduceIte,reduceLT,reduceEqDiff,reduceAdd,reduceLeDiff,g2,g6,g25,g26,g27,encV,b6]
        exact ⟨_,_,_,_,rfl,.inl ⟨rfl,H1.mono (by omega),by omega,getO_keep b2 (by omega),q,q1,by omega,by rw [hz]; exact getO_keep b6 (by omega),by simp +decide only [sG,g2],by simp +decide only [sG,g6],by simp +decide only [sG,g25],by simp +decide only [sG,g26],by simp +decide only [sG]⟩⟩)
    ⟨H2.box (r:=n2+4) (m:=n2+5) (by omega) (by omega) (flatL ⟨N,v⟩) |>.mono (by omega),by omega,by simp (disch:=first|assumption|omega|(simp (disch:=first|assumption|omega) only [sB,reduceAdd,reduceLT,reduceLeDiff,reduceEqDiff,reduceMul,↓reduceIte];done)|fail) only [sA,↓reduceIte,reduceLT,reduceEqDiff,reduceAdd,reduceLeDiff,b2],n2+4,by omega,by omega,by simp (disch:=first|assumption|omega|(simp (disch:=first|assumption|omega) only [sB,reduceAdd,reduceLT,reduceLeDiff,reduceEqDiff,reduceMul,↓reduceIte];done)|fail) only [sA,↓reduceIte,reduceLT,reduceEqDiff,reduceAdd,reduceLeDiff]; rfl,by simp +decide only [sG,g2],by simp +decide only [sG],by simp +decide only [sG],by simp +decide only [sG],by simp (disch:=first|assumption|omega|(simp (disch:=first|assumption|omega) only [sB,reduceAdd,reduceLT,reduceLeDiff,reduceEqDiff,reduceMul,↓reduceIte];done)|fail) only [sA,↓reduceIte,reduceLT,reduceEqDiff,reduceAdd,reduceLeDiff]⟩
  have bS:getO (setO h3 (n+1) (.row 2 [.agg [.int .i64 (zn N v.el),slD 2 encV v]])) (n+1)=_:=getO_set1 b3
  have H4:Hp n h n3 (setO h3 (n+1) (.row 2 [.agg [.int .i64 (zn N v.el),slD 2 encV v]])) := (H3.set (r:=n+1) (by omega) (fun k _=>lowO_one (low_flat (flatL ⟨_,v⟩))))
  have hres : (D.agg [.int .i64 (Lev.norm ⟨N,l⟩).n,slD 2 encV (Sl.app (Lev.norm ⟨N,l⟩).v)]) = .agg [.int .i64 (zn N v.el),slD 2 encV v]:=by rw [← hve,← hv]; rfl
  rw [← hR,hres]
  have F4:=fun m hm=>finish_flat (d := .agg [.int .i64 (zn N v.el),slD 2 encV v]) (flatL ⟨zn N v.el,v⟩) (H4.mono (m:=m) hm)
  simp (disch:=first|assumption|omega|(simp (disch:=first|assumption|omega) only [sB,reduceAdd,reduceLT,reduceLeDiff,reduceEqDiff,reduceMul,↓reduceIte];done)|fail) only [sA,↓reduceIte,reduceLT,reduceEqDiff,reduceAdd,reduceLeDiff,g2,g6,b3,b4,bS,F4]
  done
end


section
variable (n:Nat) (h:Hps) (hg:∀ k,n≤k→GoodAt k h)
include hg
theorem lvNormA (N:Int) (d:D) (l:List LV) (ad:Nat→D) (S:Sv 2 encV n h d l ad):callFn (LX (cF Try.prog)) n h [(D.agg [.int .i64 (N),d])] (cF Try.prog 95) = .ok (D.tup [.agg [.int .i64 (Lev.nrm ⟨N,l⟩).1.n,slD 2 encV (Sl.app (Lev.nrm ⟨N,l⟩).1.v)],.int .i64 (Lev.nrm ⟨N,l⟩).2]) n h:=by
  have hgn:=hg n (Nat.le_refl _)
  have s3:=S.okD
  have H0:Hp n h (n+2) ((n+1,(Ob.row 2 [.agg [.int .i64 0,.nils]])) :: (n,(Ob.row 2 [.agg [.int .i64 (N),d]]))::h) := ((Hp.start hg).cons (r:=n) (m:=n+1) (Nat.le_refl _) (by omega) (fun k hk=>S.box2 (by omega))).box (m:=n+2) (r:=n+1) (by omega) (by omega) rfl
  have c1:∀ m,n+2≤m→callFn (LX (cF Try.prog)) m ((n+1,(Ob.row 2 [.agg [.int .i64 0,.nils]])) :: (n,(Ob.row 2 [.agg [.int .i64 (N),d]]))::h) [(D.agg [.int .i64 (N),d])] (cF Try.prog 98) = .ok (.bool (Lev.right ⟨N,l⟩)) m ((n+1,(Ob.row 2 [.agg [.int .i64 0,.nils]])) :: (n,(Ob.row 2 [.agg [.int .i64 (N),d]]))::h):=fun m hm=>lvRightA m _ (H0.good' hm) N d l ad (S.mono H0 hm)
  unfold Lev.nrm
  cases hb:Lev.right ⟨N,l⟩ with
  | true =>
    have c0:∀ m,n+2≤m→callFn (LX (cF Try.prog)) m ((n+1,(Ob.row 2 [.agg [.int .i64 0,.nils]])) :: (n,(Ob.row 2 [.agg [.int .i64 (N),d]]))::h) [(D.agg [.int .i64 (N),d])] (cF Try.prog 99) = .ok (D.agg [.int .i64 (Lev.norm ⟨N,l⟩).n,slD 2 encV (Sl.app (Lev.norm ⟨N,l⟩).v)]) m ((n+1,(Ob.row 2 [.agg [.int .i64 0,.nils]])) :: (n,(Ob.row 2 [.agg [.int .i64 (N),d]]))::h):=fun m hm=>lvNorm0 m _ (H0.good' hm) N d l ad (S.mono H0 hm) (by have:l.length≤64 := (right_iff.1 hb).2.1; omega)
    generalize hN:Lev.norm ⟨N,l⟩=M at c0 ⊢
    obtain ⟨Mn,Mv⟩:=M
    rw [f95_eq]; unfold c95; rw [callFn_eq (by rfl)]
    rw [if_pos rfl]
    rw [hb] at c1
    simp (disch:=first|assumption|omega|(simp (disch:=first|assumption|omega) only [sB,reduceAdd,reduceLT,reduceLeDiff,reduceEqDiff,reduceMul,↓reduceIte];done)|fail) only [sA,↓reduceIte,reduceLT,reduceEqDiff,reduceAdd,reduceLeDiff,c0,c1,s3]
  | false =>
    rw [f95_eq]; unfold c95; rw [callFn_eq (by rfl)]
    rw [if_neg (by decide)]
    rw [hb] at c1
    simp (disch:=first|assumption|omega|(simp (disch:=first|assumption|omega) only [sB,reduceAdd,reduceLT,reduceLeDiff,reduceEqDiff,reduceMul,↓reduceIte];done)|fail) only [sA,↓reduceIte,reduceLT,reduceEqDiff,reduceAdd,reduceLeDiff,c1,s3,slD_nil]
end
end Go.Proofs.Ytpbpmpabndgeeaa
