/- Whether two lists of variables are one, as the program asks it. No condition but lengths. -/
import Derived.Test.YtdijijblccmfbaaNLP
/- The reference's canonical level. No condition but that no variable's number is below 0. -/
set_option linter.unusedSimpArgs false
set_option linter.unusedVariables false
namespace Go.Proofs.Ytdijijblccmfbaa
open Go
open Nat (reduceAdd reduceLT reduceLeDiff reduceEqDiff reduceMul)

def Scan (vs:List LV) (last next add:Int):Prop := (next = -1∧add=0∧∀ p,p∈vs→p.1≤last) ∨ (0≤next∧last < next ∧ (next,add)∈vs∧∀ p,p∈vs→last < p.1→next < p.1 ∨ (p.1=next∧p.2≤add))
theorem scan_nil (last:Int):Scan [] last (-1) 0 := .inl ⟨rfl,rfl,fun p hp=>by cases hp⟩

def scanS (last:Int) (v:LV) (x:Int×Int):Int×Int:=if v.1≤last then x else if x.1 < 0∨v.1 < x.1 then v else if v.1=x.1∧x.2 < v.2 then (x.1,v.2) else x
theorem scan_snoc {vs:List LV} {last:Int} {x:Int×Int} {v:LV} (h:Scan vs last x.1 x.2) (hv:0≤v.1):Scan (vs++[v]) last (scanS last v x).1 (scanS last v x).2:=by
  unfold scanS
  by_cases h1:v.1≤last
  · rw [if_pos h1]
    rcases h with ⟨e1,e2,h⟩ | ⟨a1,a2,a3,h⟩
    · refine .inl ⟨e1,e2,fun p hp=>?_⟩
      rcases List.mem_append.1 hp with hp | hp
      · exact h p hp
      · rw [List.mem_singleton.1 hp]; exact h1
    · refine .inr ⟨a1,a2,List.mem_append.2 (.inl a3),fun p hp hl=>?_⟩
      rcases List.mem_append.1 hp with hp | hp
      · exact h p hp hl
      · rw [List.mem_singleton.1 hp] at hl; omega
  · rw [if_neg h1]
    by_cases h2:x.1 < 0∨v.1 < x.1
    · rw [if_pos h2]
      refine .inr ⟨hv,by omega,by simp,fun p hp hl=>?_⟩
      rcases List.mem_append.1 hp with hp | hp
      · rcases h with ⟨e1,e2,h⟩ | ⟨a1,a2,a3,h⟩
        · have:=h p hp; omega
        · rcases h p hp hl with h3 | h3 <;> omega
      · rw [List.mem_singleton.1 hp]; exact .inr ⟨rfl,Int.le_refl _⟩
    · rw [if_neg h2]
      rcases h with ⟨e1,_,_⟩ | ⟨a1,a2,a3,h⟩
      · omega
      · by_cases h3:v.1=x.1∧x.2 < v.2
        · rw [if_pos h3]
          refine .inr ⟨a1,a2,by
            have:v = (x.1,v.2):=Prod.ext h3.1 rfl
            rw [← this]; simp,fun p hp hl=>?_⟩
          rcases List.mem_append.1 hp with hp | hp
          · rcases h p hp hl with h4 | h4
            · exact .inl h4
            · exact .inr ⟨h4.1,by show p.2≤v.2; omega⟩
          · rw [List.mem_singleton.1 hp]; exact .inr ⟨h3.1,Int.le_refl _⟩
        · rw [if_neg h3]
          refine .inr ⟨a1,a2,List.mem_append.2 (.inl a3),fun p hp hl=>?_⟩
          rcases List.mem_append.1 hp with hp | hp
          · exact h p hp hl
          · rw [List.mem_singleton.1 hp]
            by_cases h4:v.1=x.1
            · exact .inr ⟨h4,by omega⟩
            · exact .inl (by omega)
structure Upto (l o:List LV) (last:Int):Prop where
  srt:Srt o
  sub:∀ q,q∈o→q∈l∧q.1≤last
  cov:∀ p,p∈l→p.1≤last→∃ q,q∈o∧q.1=p.1∧p.2≤q.2
theorem Upto.nil {l:List LV} (hv:∀ p,p∈l→0≤p.1):Upto l [] (-1):=⟨List.Pairwise.nil,fun q hq => (by cases hq),fun p hp h => (by have:=hv p hp; omega)⟩
theorem Upto.next {l o:List LV} {last next add:Int} (h:Upto l o last) (hs:Scan l last next add) (hn:0≤next):Upto l (o++[(next,add)]) next:=by
  rcases hs with ⟨e,_,_⟩ | ⟨a1,a2,a3,a4⟩
  · omega
  · refine ⟨List.pairwise_append.2 ⟨h.srt,srt_single _,fun a ha b hb=>?_⟩,fun q hq=>?_,fun p hp hl=>?_⟩
    · rw [List.mem_singleton.1 hb]; have := (h.sub a ha).2; show a.1 < next; omega
    · rcases List.mem_append.1 hq with hq | hq
      · exact ⟨(h.sub q hq).1,by have := (h.sub q hq).2; omega⟩
      · rw [List.mem_singleton.1 hq]; exact ⟨a3,Int.le_refl _⟩
    · by_cases h1:p.1≤last
      · obtain ⟨q,q1,q2,q3⟩:=h.cov p hp h1
        exact ⟨q,List.mem_append.2 (.inl q1),q2,q3⟩
      · rcases a4 p hp (by omega) with h2 | h2
        · omega
        · exact ⟨(next,add),by simp,h2.1.symm,h2.2⟩
theorem Upto.done {l o:List LV} {last next add:Int} (h:Upto l o last) (hs:Scan l last next add) (hn:next < 0):o=nfL l:=by
  rcases hs with ⟨_,_,h1⟩ | ⟨a1,_,_,_⟩
  · exact (nfL_eq (l:=o) ⟨h.srt,fun q hq => (h.sub q hq).1,fun p hp=>h.cov p hp (h1 p hp)⟩).symm
  · omega
theorem Upto.len {l o:List LV} {last:Int} (h:Upto l o last):o.length≤l.length:=by
  refine Nat.le_trans (nf_len (vs:=l.filter fun p=>decide (p.1≤last)) ⟨h.srt,fun q hq=>?_,fun p hp=>?_⟩) (List.length_filter_le _ _)
  · rw [List.mem_filter]; exact ⟨(h.sub q hq).1,by simpa using (h.sub q hq).2⟩
  · rw [List.mem_filter] at hp; exact h.cov p hp.1 (by simpa using hp.2)
theorem above_less {l:List LV} {last next add:Int} (hs:Scan l last next add) (hn:0≤next) : (l.filter fun p=>decide (next < p.1)).length < (l.filter fun p=>decide (last < p.1)).length:=by
  rcases hs with ⟨e,_,_⟩ | ⟨_,a2,a3,_⟩
  · omega
  · have key:∀ (l:List LV),(l.filter fun p=>decide (next < p.1)).length ≤ (l.filter fun p=>decide (last < p.1)).length ∧ ((next,add)∈l → (l.filter fun p=>decide (next < p.1)).length < (l.filter fun p=>decide (last < p.1)).length):=by
      intro l
      induction l with
      | nil=>exact ⟨Nat.le_refl _,fun h=>by cases h⟩
      | cons x t ih =>
        simp only [List.filter_cons]
        by_cases h1:next < x.1
        · have h2:last < x.1:=by omega
          rw [decide_eq_true h1,decide_eq_true h2]
          simp only [if_true,List.length_cons]
          refine ⟨by omega,fun hm=>?_⟩
          rcases List.mem_cons.1 hm with e | hm
          · rw [← e] at h1; omega
          · have:=ih.2 hm; omega
        · rw [decide_eq_false h1]
          by_cases h2:last < x.1
          · rw [decide_eq_true h2]
            simp only [if_true,List.length_cons]
            refine ⟨by have:=ih.1; simp; omega,fun hm=>by have:=ih.1; simp; omega⟩
          · rw [decide_eq_false h2]
            refine ⟨by simpa using ih.1,fun hm=>?_⟩
            rcases List.mem_cons.1 hm with e | hm
            · rw [← e] at h2; exact absurd a2 h2
            · simpa using ih.2 hm
    exact (key l).2 a3

set_option maxHeartbeats 4000000 in
theorem refTidy (n:Nat) (h:Hps) (hg:∀ k,n≤k→GoodAt k h) (N:Int) (d:D) (l:List LV) (ad:Nat→D) (S:Sv 2 encV n h d l ad) (hs:l.length < 1000000000000) (hv:∀ p,p∈l→0≤p.1) (hN : -4611686018427387904 < N∧N < 4611686018427387904):callFn (LX (cFk kL Try.prog)) n h [(D.agg [.int .i64 (N),d])] (cFk kL Try.prog 132) = .ok (D.agg [.int .i64 (Lev.norm ⟨N,l⟩).n,slD 2 encV (Sl.app (Lev.norm ⟨N,l⟩).v)]) n h:=by
  have hgn:=hg n (Nat.le_refl _)
  have s1:=S.len
  have s2:=S.idx
  have s3:=S.okD
  have H0:Hp n h (n+2) ((n+1,(Ob.row 2 [.agg [.int .i64 0,.nils]])) :: (n,(Ob.row 2 [.agg [.int .i64 (N),d]]))::h) := ((Hp.start hg).cons (r:=n) (m:=n+1) (Nat.le_refl _) (by omega) (fun k hk=>S.box2 (by omega))).box (m:=n+2) (r:=n+1) (by omega) (by omega) rfl
  generalize hR : (D.agg [.int .i64 (Lev.norm ⟨N,l⟩).n,slD 2 encV (Sl.app (Lev.norm ⟨N,l⟩).v)])=R
  rw [f132_eq]; unfold c132; rw [callFn_eq (by rfl)]
  simp (disch:=first|assumption|omega|(simp (disch:=first|assumption|omega) only [sB,reduceAdd,reduceLT,reduceLeDiff,reduceEqDiff,reduceMul,↓reduceIte];done)|fail) only [sA,↓reduceIte,reduceLT,reduceEqDiff,reduceAdd,reduceLeDiff,s1,s3]
  generalize hr:LX (cFk kL Try.prog) (.loop l132_1) _ _ _=r
  obtain ⟨x,e2,n2,h2,rfl,rfl,H2,p2,b2,d2,b3,B2,g2,g3⟩:=loop_at hr
    (fun j e n' h'=>Hp n h n' h'∧n+6≤n'∧getO h' n = (Ob.row 2 [.agg [.int .i64 (N),d]])∧getO h' (n+1) = (Ob.row 2 [.agg [.int .i64 0,.nils]])∧∃ (last:Int) (o:List LV) (dd:D),(l.filter fun p=>decide (last < p.1)).length=j ∧ -1≤last∧Upto l o last∧getO h' (n+5) = (Ob.row 2 [.agg [.int .i64 (zn N o),dd]])∧Bld 2 encV (n+6) o h' dd ∧
      get (po 1) e = .ptr n 0 0∧get (po 2) e = .ptr (n+1) 0 0∧get (po 3) e = .ptr (n+5) 0 0∧get (po 4) e = .int .i64 last)
    (fun x e n' h'=>x = .exit 0∧Hp n h n' h'∧n+6≤n'∧getO h' (n+1) = (Ob.row 2 [.agg [.int .i64 0,.nils]])∧∃ (dd:D),getO h' (n+5) = (Ob.row 2 [.agg [.int .i64 (zn N (nfL l)),dd]])∧Bld 2 encV (n+6) (nfL l) h' dd∧get (po 2) e = .ptr (n+1) 0 0∧get (po 3) e = .ptr (n+5) 0 0)
    (by
      rintro j e n' h' ⟨H,p1,b1,b2,last,o,dd,hj,hla,hU,b3,B,g1,g2,g3,g4⟩
      unfold l132_1
      simp (disch:=first|assumption|omega|(simp (disch:=first|assumption|omega) only [sB,reduceAdd,reduceLT,reduceLeDiff,reduceEqDiff,reduceMul,↓reduceIte];done)|fail) only [sA,↓reduceIte,reduceLT,reduceEqDiff,reduceAdd,reduceLeDiff]
      generalize hr:LX (cFk kL Try.prog) (.loop l132_0) _ _ _=r
      obtain ⟨x,e2,n2,h2,rfl,rfl,H2,p2,b1,b2,b3,B,g1,g2,g3,g4,x2,hsc,g5,g6⟩:=loop_up hr l.length
        (fun i e n2 h2=>Hp n h n2 h2∧n'≤n2∧getO h2 n = (Ob.row 2 [.agg [.int .i64 (N),d]])∧getO h2 (n+1) = (Ob.row 2 [.agg [.int .i64 0,.nils]])∧getO h2 (n+5) = (Ob.row 2 [.agg [.int .i64 (zn N o),dd]])∧Bld 2 encV (n+6) o h2 dd ∧
          get (po 1) e = .ptr n 0 0∧get (po 2) e = .ptr (n+1) 0 0∧get (po 3) e = .ptr (n+5) 0 0∧get (po 4) e = .int .i64 last∧∃ x:Int×Int,Scan (l.take i) last x.1 x.2∧get (po 5) e = .int .i64 x.1∧get (po 6) e = .int .i64 x.2∧get (po 7) e = .int .i64 (i:Nat))
        (fun x e n2 h2=>x = .exit 2∧Hp n h n2 h2∧n'≤n2∧getO h2 n = (Ob.row 2 [.agg [.int .i64 (N),d]])∧getO h2 (n+1) = (Ob.row 2 [.agg [.int .i64 0,.nils]])∧getO h2 (n+5) = (Ob.row 2 [.agg [.int .i64 (zn N o),dd]])∧Bld 2 encV (n+6) o h2 dd ∧
          get (po 1) e = .ptr n 0 0∧get (po 2) e = .ptr (n+1) 0 0∧get (po 3) e = .ptr (n+5) 0 0∧get (po 4) e = .int .i64 last∧∃ x:Int×Int,Scan l last x.1 x.2∧get (po 5) e = .int .i64 x.1∧get (po 6) e = .int .i64 x.2)
        (by
          rintro e n2 h2 ⟨H,p2,b1,b2,b3,B,g1,g2,g3,g4,x,hsc,g5,g6,g7⟩
          rw [List.take_length] at hsc
          unfold l132_0
          simp (disch:=first|assumption|omega|(simp (disch:=first|assumption|omega) only [sB,reduceAdd,reduceLT,reduceLeDiff,reduceEqDiff,reduceMul,↓reduceIte];done)|fail) only [sA,↓reduceIte,reduceLT,reduceEqDiff,reduceAdd,reduceLeDiff,g1,g7,b1,s1,s3]
          exact ⟨_,_,_,_,rfl,by simp,rfl,H.mono (by omega),by omega,b1,b2,b3,B,by simp +decide only [sG,g1],by simp +decide only [sG,g2],by simp +decide only [sG,g3],by simp +decide only [sG,g4],x,hsc,by simp +decide only [sG,g5],by simp +decide only [sG,g6]⟩)
        (by
          rintro i e n2 h2 hi ⟨H,p2,b1,b2,b3,B,g1,g2,g3,g4,x,hsc,g5,g6,g7⟩
          have H1:∀ q,q=n2+10→Hp n h (q+1) ((q,.row 2 [encV l[i]])::h2):=fun q hq=>H.box (by omega) (by omega) rfl
          have s4:=S.at H
          have hvi:=hv l[i] (List.getElem_mem hi)
          have hsn:=scan_snoc hsc hvi
          rw [← take_snoc hi] at hsn
          have hnn:=H.le
          unfold l132_0
          unfold scanS at hsn
          by_cases a1:l[i].1≤last
          · rw [if_pos a1] at hsn
            simp (disch:=first|assumption|omega|(simp (disch:=first|assumption|omega) only [sB,reduceAdd,reduceLT,reduceLeDiff,reduceEqDiff,reduceMul,↓reduceIte];done)|fail) only [sA,↓reduceIte,reduceLT,reduceEqDiff,reduceAdd,reduceLeDiff,g1,g2,g3,g4,g5,g6,g7,b1,s1,s2,s3,s4,encV]
            exact ⟨_,_,_,_,rfl,.inl ⟨rfl,(H1 _ rfl).mono (by omega),by omega,getO_keep b1 (by omega),getO_keep b2 (by omega),getO_keep b3 (by omega),B.cons (H.good n2 (Nat.le_refl _)) (by omega),by simp +decide only [sG,g1],by simp +decide only [sG,g2],by simp +decide only [sG,g3],by simp +decide only [sG,g4],x,hsn,by simp +decide only [sG,g5],by simp +decide only [sG,g6],by simp +decide only [sG]⟩⟩
          · rw [if_neg a1] at hsn
            by_cases a2:x.1 < 0∨l[i].1 < x.1
            · rw [if_pos a2] at hsn
              by_cases a3:x.1 < 0
              · simp (disch:=first|assumption|omega|(simp (disch:=first|assumption|omega) only [sB,reduceAdd,reduceLT,reduceLeDiff,reduceEqDiff,reduceMul,↓reduceIte];done)|fail) only [sA,↓reduceIte,reduceLT,reduceEqDiff,reduceAdd,reduceLeDiff,g1,g2,g3,g4,g5,g6,g7,b1,s1,s2,s3,s4,encV]
                exact ⟨_,_,_,_,rfl,.inl ⟨rfl,(H1 _ rfl).mono (by omega),by omega,getO_keep b1 (by omega),getO_keep b2 (by omega),getO_keep b3 (by omega),B.cons (H.good n2 (Nat.le_refl _)) (by omega),by simp +decide only [sG,g1],by simp +decide only [sG,g2],by simp +decide only [sG,g3],by simp +decide only [sG,g4],_,hsn,by simp +decide only [sG],by simp +decide only [sG],by simp +decide only [sG]⟩⟩
              · have a4:l[i].1 < x.1:=by omega
                simp (disch:=first|assumption|omega|(simp (disch:=first|assumption|omega) only [sB,reduceAdd,reduceLT,reduceLeDiff,reduceEqDiff,reduceMul,↓reduceIte];done)|fail) only [sA,↓reduceIte,reduceLT,reduceEqDiff,reduceAdd,reduceLeDiff,g1,g2,g3,g4,g5,g6,g7,b1,s1,s2,s3,s4,encV]
                exact ⟨_,_,_,_,rfl,.inl ⟨rfl,(H1 _ rfl).mono (by omega),by omega,getO_keep b1 (by omega),getO_keep b2 (by omega),getO_keep b3 (by omega),B.cons (H.good n2 (Nat.le_refl _)) (by omega),by simp +decide only [sG,g1],by simp +decide only [sG,g2],by simp +decide only [sG,g3],by simp +decide only [sG,g4],_,hsn,by simp +decide only [sG],by simp +decide only [sG],by simp +decide only [sG]⟩⟩
            · rw [if_neg a2] at hsn
              by_cases a5:l[i].1=x.1
              · by_cases a6:x.2 < l[i].2
                · rw [if_pos ⟨a5,a6⟩] at hsn
                  simp (disch:=first|assumption|omega|(simp (disch:=first|assumption|omega) only [sB,reduceAdd,reduceLT,reduceLeDiff,reduceEqDiff,reduceMul,↓reduceIte];done)|fail) only [sA,↓reduceIte,reduceLT,reduceEqDiff,reduceAdd,reduceLeDiff,g1,g2,g3,g4,g5,g6,g7,b1,s1,s2,s3,s4,encV]
                  exact ⟨_,_,_,_,rfl,.inl ⟨rfl,(H1 _ rfl).mono (by omega),by omega,getO_keep b1 (by omega),getO_keep b2 (by omega),getO_keep b3 (by omega),B.cons (H.good n2 (Nat.le_refl _)) (by omega),by simp +decide only [sG,g1],by simp +decide only [sG,g2],by simp +decide only [sG,g3],by simp +decide only [sG,g4],_,hsn,by simp +decide only [sG,g5],by simp +decide only [sG],by simp +decide only [sG]⟩⟩
                · rw [if_neg (fun h=>a6 h.2)] at hsn
                  simp (disch:=first|assumption|omega|(simp (disch:=first|assumption|omega) only [sB,reduceAdd,reduceLT,reduceLeDiff,reduceEqDiff,reduceMul,↓reduceIte];done)|fail) only [sA,↓reduceIte,reduceLT,reduceEqDiff,reduceAdd,reduceLeDiff,g1,g2,g3,g4,g5,g6,g7,b1,s1,s2,s3,s4,encV]
                  exact ⟨_,_,_,_,rfl,.inl ⟨rfl,(H1 _ rfl).mono (by omega),by omega,getO_keep b1 (by omega),getO_keep b2 (by omega),getO_keep b3 (by omega),B.cons (H.good n2 (Nat.le_refl _)) (by omega),by simp +decide only [sG,g1],by simp +decide only [sG,g2],by simp +decide only [sG,g3],by simp +decide only [sG,g4],_,hsn,by simp +decide only [sG,g5],by simp +decide only [sG,g6],by simp +decide only [sG]⟩⟩
              · rw [if_neg (fun h=>a5 h.1)] at hsn
                simp (disch:=first|assumption|omega|(simp (disch:=first|assumption|omega) only [sB,reduceAdd,reduceLT,reduceLeDiff,reduceEqDiff,reduceMul,↓reduceIte];done)|fail) only [sA,↓reduceIte,reduceLT,reduceEqDiff,reduceAdd,reduceLeDiff,g1,g2,g3,g4,g5,g6,g7,b1,s1,s2,s3,s4,encV]
                exact ⟨_,_,_,_,rfl,.inl ⟨rfl,(H1 _ rfl).mono (by omega),by omega,getO_keep b1 (by omega),getO_keep b2 (by omega),getO_keep b3 (by omega),B.cons (H.good n2 (Nat.le_refl _)) (by omega),by simp +decide only [sG,g1],by simp +decide only [sG,g2],by simp +decide only [sG,g3],by simp +decide only [sG,g4],_,hsn,by simp +decide only [sG,g5],by simp +decide only [sG,g6],by simp +decide only [sG]⟩⟩)
        ⟨H.mono (by omega),by omega,b1,b2,b3,B,by simp +decide only [sG,g1],by simp +decide only [sG,g2],by simp +decide only [sG,g3],by simp +decide only [sG,g4],(-1,0),scan_nil last,by simp +decide only [sG],by simp +decide only [sG],by simp (disch:=first|assumption|omega|(simp (disch:=first|assumption|omega) only [sB,reduceAdd,reduceLT,reduceLeDiff,reduceEqDiff,reduceMul,↓reduceIte];done)|fail) only [sA,↓reduceIte,reduceLT,reduceEqDiff,reduceAdd,reduceLeDiff]⟩
      by_cases hneg:x2.1 < 0
      · have hdone:=hU.done hsc hneg
        subst hdone
        simp (disch:=first|assumption|omega|(simp (disch:=first|assumption|omega) only [sB,reduceAdd,reduceLT,reduceLeDiff,reduceEqDiff,reduceMul,↓reduceIte];done)|fail) only [sA,↓reduceIte,reduceLT,reduceEqDiff,reduceAdd,reduceLeDiff,g5]
        exact ⟨_,_,_,_,rfl,.inr ⟨by simp,rfl,H2.mono (by omega),by omega,b2,dd,b3,B,by simp +decide only [sG,g2],by simp +decide only [sG,g3]⟩⟩
      · have hn0:0≤x2.1:=by omega
        have hU2:=hU.next hsc hn0
        have hab:=above_less hsc hn0
        have hol:=hU.len
        have hx2 : ((x2.1,x2.2):LV)=x2:=rfl
        obtain ⟨D',H',A⟩:=app_bldx (b:=16) B H2 (by omega) (by omega) lowV [((x2.1,x2.2):LV)] (by simp; omega)
        have A1:=fun m hm => (A m hm).1
        simp only [encV,List.map_cons,List.map_nil] at A1
        obtain ⟨_,A2,A3,A4,_⟩:=A (n2+8) (by omega)
        have hd1:=B.okD
        have hd2:=A2.one
        have hgm:getO (H' (n2+8)) (n+5) = (Ob.row 2 [.agg [.int .i64 (zn N o),dd]]) := (A4 _ (by omega)).trans b3
        have hgn2:getO (H' (n2+8)) n = (Ob.row 2 [.agg [.int .i64 (N),d]]) := (A4 _ (by omega)).trans b1
        have hgS:∀ _:Nat,getO (setO (H' (n2+8)) (n+5) (Ob.row 2 [.agg [.int .i64 (zn N o),D' (n2+8)]])) n = (Ob.row 2 [.agg [.int .i64 (N),d]]):=fun _=>getO_set2 hgm hgn2 (by omega)
        have hgT:getO (setO (H' (n2+8)) (n+5) (Ob.row 2 [.agg [.int .i64 (zn N o),D' (n2+8)]])) (n+5) = (Ob.row 2 [.agg [.int .i64 (zn N o),D' (n2+8)]]):=getO_set1 hgm
        have HS:Hp n h (n2+9) (setO (H' (n2+8)) (n+5) (Ob.row 2 [.agg [.int .i64 (zn N o),D' (n2+8)]])):=A3.set (r:=n+5) (by omega) (fun q hq=>A2.box2 (A3.good q hq))
        have AS:=A2.set (x := (Ob.row 2 [.agg [.int .i64 (zn N o),D' (n2+8)]])) hgm (show n+5 < n+6 by omega)
        by_cases hc:N≤x2.2
        · have hz:zn N (o++[(x2.1,x2.2)])=0:=by
            unfold zn
            rw [List.any_append]
            simp [hc]
          simp (disch:=first|assumption|omega|(simp (disch:=first|assumption|omega) only [sB,reduceAdd,reduceLT,reduceLeDiff,reduceEqDiff,reduceMul,↓reduceIte,hd2];done)|fail) only [sA,↓reduceIte,reduceLT,reduceEqDiff,reduceAdd,reduceLeDiff,g1,g2,g3,g5,g6,b3,s3,hd1,A1,hgm,hgS 0,hgT,hd2]
          exact ⟨_,_,_,_,rfl,.inl ⟨rfl,_,hj ▸ hab,(HS.set (r:=n+5) (by omega) (fun q hq=>AS.box2 (HS.good q hq))).mono (by omega),by omega,getO_set2 hgT (hgS 0) (by omega),getO_set2 hgT (getO_set2 hgm ((A4 _ (by omega)).trans b2) (by omega)) (by omega),x2.1,_,D' (n2+8),rfl,by omega,hU2,by rw [hz]; exact getO_set1 hgT,AS.set hgT (by omega),by simp +decide only [sG,g1],by simp +decide only [sG,g2],by simp +decide only [sG,g3],by simp +decide only [sG]⟩⟩
        · have hz:zn N (o++[(x2.1,x2.2)])=zn N o:=by
            unfold zn
            rw [List.any_append]
            have : ([((x2.1,x2.2):LV)].any fun p=>decide (N≤p.2))=false:=by simp; omega
            rw [this,Bool.or_false]
          simp (disch:=first|assumption|omega|(simp (disch:=first|assumption|omega) only [sB,reduceAdd,reduceLT,reduceLeDiff,reduceEqDiff,reduceMul,↓reduceIte,hd2];done)|fail) only [sA,↓reduceIte,reduceLT,reduceEqDiff,reduceAdd,reduceLeDiff,g1,g2,g3,g5,g6,b3,s3,hd1,A1,hgm,hgS 0,hgT,hd2]
          exact ⟨_,_,_,_,rfl,.inl ⟨rfl,_,hj ▸ hab,HS.mono (by omega),by omega,hgS 0,getO_set2 hgm ((A4 _ (by omega)).trans b2) (by omega),x2.1,_,D' (n2+8),rfl,by omega,hU2,by rw [hz]; exact hgT,AS,by simp +decide only [sG,g1],by simp +decide only [sG,g2],by simp +decide only [sG,g3],by simp +decide only [sG]⟩⟩)
    _ ⟨(H0.box (r:=n+5) (m:=n+6) (by omega) (by omega) rfl).mono (by omega),by omega,by simp (disch:=first|assumption|omega|(simp (disch:=first|assumption|omega) only [sB,reduceAdd,reduceLT,reduceLeDiff,reduceEqDiff,reduceMul,↓reduceIte];done)|fail) only [sA,↓reduceIte,reduceLT,reduceEqDiff,reduceAdd,reduceLeDiff],by simp (disch:=first|assumption|omega|(simp (disch:=first|assumption|omega) only [sB,reduceAdd,reduceLT,reduceLeDiff,reduceEqDiff,reduceMul,↓reduceIte];done)|fail) only [sA,↓reduceIte,reduceLT,reduceEqDiff,reduceAdd,reduceLeDiff],-1,[],.nils,rfl,by omega,Upto.nil hv,by simp (disch:=first|assumption|omega|(simp (disch:=first|assumption|omega) only [sB,reduceAdd,reduceLT,reduceLeDiff,reduceEqDiff,reduceMul,↓reduceIte];done)|fail) only [sA,↓reduceIte,reduceLT,reduceEqDiff,reduceAdd,reduceLeDiff]; rfl,.inl ⟨rfl,rfl⟩,by simp +decide only [sG],by simp +decide only [sG],by simp +decide only [sG],by simp +decide only [sG]⟩
  have b4:getO (setO h2 (n+1) (Ob.row 2 [.agg [.int .i64 (zn N (nfL l)),d2]])) (n+1) = (Ob.row 2 [.agg [.int .i64 (zn N (nfL l)),d2]]):=getO_set1 b2
  have F4:=fun m hm=>finish_box2 (a:=zn N (nfL l)) elemV (B2.set b2 (by omega)) (show n≤n+6 by omega) ((H2.set (r:=n+1) (x := (Ob.row 2 [.agg [.int .i64 (zn N (nfL l)),d2]])) (by omega) (fun q hq=>B2.box2 (H2.good q hq))).mono (m:=m) hm)
  have hod:=B2.okD
  rw [← hR]
  simp (disch:=first|assumption|omega|(simp (disch:=first|assumption|omega) only [sB,reduceAdd,reduceLT,reduceLeDiff,reduceEqDiff,reduceMul,↓reduceIte];done)|fail) only [sA,↓reduceIte,reduceLT,reduceEqDiff,reduceAdd,reduceLeDiff,g2,g3,b2,b3,b4,hod,F4]
  rfl
end Go.Proofs.Ytdijijblccmfbaa

/- The reference's right,Norm,fits; small functions of the statements. No condition. -/
namespace Go.Proofs.Ytdijijblccmfbaa
open Go
open Nat (reduceAdd reduceLT reduceLeDiff reduceEqDiff reduceMul)

section
variable (n:Nat) (h:Hps) (hg:∀ k,n≤k→GoodAt k h)
include hg
theorem refRightA (N:Int) (d:D) (l:List LV) (ad:Nat→D) (S:Sv 2 encV n h d l ad):callFn (LX (cFk kL Try.prog)) n h [(D.agg [.int .i64 (N),d])] (cFk kL Try.prog 131) = .ok (.bool (Lev.right ⟨N,l⟩)) n h:=by
  have hgn:=hg n (Nat.le_refl _)
  have H0:Hp n h (n+1) ((n,(Ob.row 2 [.agg [.int .i64 (N),d]]))::h) := (Hp.start hg).cons (Nat.le_refl _) (by omega) (fun k hk=>S.box2 (by omega))
  rw [f131_eq]; unfold c131; rw [callFn_eq (by rfl)]
  show _=Rd.ok (.bool (fineI N && decide (l.length≤64) && l.all fineV)) n h
  have s1:=S.len
  have s2:=S.idx
  have s3:=S.okD
  by_cases k1:0≤N
  · by_cases k2:N≤1000
    · have hf:fineI N=true:=fineI_iff.2 ⟨k1,k2⟩
      by_cases h2:l.length≤64
      · rw [hf,decide_eq_true h2,Bool.true_and,Bool.true_and]
        simp (disch:=first|assumption|omega|(simp (disch:=first|assumption|omega) only [sB,reduceAdd,reduceLT,reduceLeDiff,reduceEqDiff,reduceMul,↓reduceIte];done)|fail) only [sA,↓reduceIte,reduceLT,reduceEqDiff,reduceAdd,reduceLeDiff,s1,s3]
        generalize hr:LX (cFk kL Try.prog) (.loop l131_0) _ _ _=r
        obtain ⟨x,e2,n2,h2',rfl,H2,q⟩:=loop_up hr l.length
          (fun i e n' h'=>Hp n h n' h'∧n+1≤n'∧getO h' n = (Ob.row 2 [.agg [.int .i64 (N),d]]) ∧ (l.drop i).all fineV=l.all fineV∧get (po 1) e = .ptr n 0 0∧get (po 3) e = .int .i64 (i:Nat))
          (fun x e n' h'=>Hp n h n' h' ∧ ((x = .exit 0∧l.all fineV=true) ∨ (x = .ret∧l.all fineV=false∧get (po 2) e = .bool false)))
          (by
            rintro e n' h' ⟨H,p1,b1,ha,g1,g3⟩
            unfold l131_0
            simp (disch:=first|assumption|omega|(simp (disch:=first|assumption|omega) only [sB,reduceAdd,reduceLT,reduceLeDiff,reduceEqDiff,reduceMul,↓reduceIte];done)|fail) only [sA,↓reduceIte,reduceLT,reduceEqDiff,reduceAdd,reduceLeDiff,g1,g3,b1,s1,s3]
            exact ⟨_,_,_,_,rfl,by simp,H.mono (by omega),.inl ⟨rfl,by rw [← ha]; simp⟩⟩)
          (by
            rintro i e n' h' hi ⟨H,p1,b1,ha,g1,g3⟩
            rw [List.drop_eq_getElem_cons hi,List.all_cons] at ha
            have H1:∀ q,q=n'+10→Hp n h (q+1) ((q,.row 2 [encV l[i]])::h'):=fun q hq=>H.box (by omega) (by omega) rfl
            have s4:=S.at H
            have hff:fineV l[i] = (fineI l[i].1 && fineI l[i].2):=rfl
            unfold l131_0
            by_cases a1:0≤l[i].1
            · by_cases a2:l[i].1≤1000
              · by_cases a3:0≤l[i].2
                · by_cases a4:l[i].2≤1000
                  · rw [hff,fineI_iff.2 ⟨a1,a2⟩,fineI_iff.2 ⟨a3,a4⟩] at ha
                    simp (disch:=first|assumption|omega|(simp (disch:=first|assumption|omega) only [sB,reduceAdd,reduceLT,reduceLeDiff,reduceEqDiff,reduceMul,↓reduceIte];done)|fail) only [sA,↓reduceIte,reduceLT,reduceEqDiff,reduceAdd,reduceLeDiff,g1,g3,b1,s1,s2,s3,s4,encV]
                    exact ⟨_,_,_,_,rfl,.inl ⟨rfl,(H1 _ rfl).mono (by omega),by omega,getO_keep b1 (by omega),ha,by simp +decide only [sG,g1],by simp +decide only [sG]⟩⟩
                  · have hf:fineI l[i].2=false:=by rw [← Bool.not_eq_true,fineI_iff]; omega
                    rw [hff,hf,Bool.and_false,Bool.false_and] at ha
                    simp (disch:=first|assumption|omega|(simp (disch:=first|assumption|omega) only [sB,reduceAdd,reduceLT,reduceLeDiff,reduceEqDiff,reduceMul,↓reduceIte];done)|fail) only [sA,↓reduceIte,reduceLT,reduceEqDiff,reduceAdd,reduceLeDiff,g1,g3,b1,s1,s2,s3,s4,encV]
                    exact ⟨_,_,_,_,rfl,.inr ⟨by simp,(H1 _ rfl).mono (by omega),.inr ⟨rfl,ha.symm,by simp +decide only [sG]⟩⟩⟩
                · have hf:fineI l[i].2=false:=by rw [← Bool.not_eq_true,fineI_iff]; omega
                  rw [hff,hf,Bool.and_false,Bool.false_and] at ha
                  simp (disch:=first|assumption|omega|(simp (disch:=first|assumption|omega) only [sB,reduceAdd,reduceLT,reduceLeDiff,reduceEqDiff,reduceMul,↓reduceIte];done)|fail) only [sA,↓reduceIte,reduceLT,reduceEqDiff,reduceAdd,reduceLeDiff,g1,g3,b1,s1,s2,s3,s4,encV]
                  exact ⟨_,_,_,_,rfl,.inr ⟨by simp,(H1 _ rfl).mono (by omega),.inr ⟨rfl,ha.symm,by simp +decide only [sG]⟩⟩⟩
              · have hf:fineI l[i].1=false:=by rw [← Bool.not_eq_true,fineI_iff]; omega
                rw [hff,hf,Bool.false_and,Bool.false_and] at ha
                simp (disch:=first|assumption|omega|(simp (disch:=first|assumption|omega) only [sB,reduceAdd,reduceLT,reduceLeDiff,reduceEqDiff,reduceMul,↓reduceIte];done)|fail) only [sA,↓reduceIte,reduceLT,reduceEqDiff,reduceAdd,reduceLeDiff,g1,g3,b1,s1,s2,s3,s4,encV]
                exact ⟨_,_,_,_,rfl,.inr ⟨by simp,(H1 _ rfl).mono (by omega),.inr ⟨rfl,ha.symm,by simp +decide only [sG]⟩⟩⟩
            · have hf:fineI l[i].1=false:=by rw [← Bool.not_eq_true,fineI_iff]; omega
              rw [hff,hf,Bool.false_and,Bool.false_and] at ha
              simp (disch:=first|assumption|omega|(simp (disch:=first|assumption|omega) only [sB,reduceAdd,reduceLT,reduceLeDiff,reduceEqDiff,reduceMul,↓reduceIte];done)|fail) only [sA,↓reduceIte,reduceLT,reduceEqDiff,reduceAdd,reduceLeDiff,g1,g3,b1,s1,s2,s3,s4,encV]
              exact ⟨_,_,_,_,rfl,.inr ⟨by simp,(H1 _ rfl).mono (by omega),.inr ⟨rfl,ha.symm,by simp +decide only [sG]⟩⟩⟩)
          ⟨H0.mono (by omega),by omega,by simp (disch:=first|assumption|omega|(simp (disch:=first|assumption|omega) only [sB,reduceAdd,reduceLT,reduceLeDiff,reduceEqDiff,reduceMul,↓reduceIte];done)|fail) only [sA,↓reduceIte,reduceLT,reduceEqDiff,reduceAdd,reduceLeDiff],rfl,by simp +decide only [sG],by simp (disch:=first|assumption|omega|(simp (disch:=first|assumption|omega) only [sB,reduceAdd,reduceLT,reduceLeDiff,reduceEqDiff,reduceMul,↓reduceIte];done)|fail) only [sA,↓reduceIte,reduceLT,reduceEqDiff,reduceAdd,reduceLeDiff]⟩
        rcases q with ⟨rfl,q⟩ | ⟨rfl,q,q2⟩
        · rw [q]
          simp (disch:=first|assumption|omega|(simp (disch:=first|assumption|omega) only [sB,reduceAdd,reduceLT,reduceLeDiff,reduceEqDiff,reduceMul,↓reduceIte];done)|fail) only [sA,↓reduceIte,reduceLT,reduceEqDiff,reduceAdd,reduceLeDiff,finish_flat (d := .bool true) rfl (H2.mono (show n2≤n2+1 by omega))]
        · rw [q]
          simp (disch:=first|assumption|omega|(simp (disch:=first|assumption|omega) only [sB,reduceAdd,reduceLT,reduceLeDiff,reduceEqDiff,reduceMul,↓reduceIte];done)|fail) only [sA,↓reduceIte,reduceLT,reduceEqDiff,reduceAdd,reduceLeDiff,q2,finish_flat (d := .bool false) rfl H2]
      · rw [decide_eq_false h2,Bool.and_false,Bool.false_and]
        simp (disch:=first|assumption|omega|(simp (disch:=first|assumption|omega) only [sB,reduceAdd,reduceLT,reduceLeDiff,reduceEqDiff,reduceMul,↓reduceIte];done)|fail) only [sA,↓reduceIte,reduceLT,reduceEqDiff,reduceAdd,reduceLeDiff,s1,s3]
    · have hf:fineI N=false:=by rw [← Bool.not_eq_true,fineI_iff]; omega
      rw [hf,Bool.false_and,Bool.false_and]
      simp (disch:=first|assumption|omega|(simp (disch:=first|assumption|omega) only [sB,reduceAdd,reduceLT,reduceLeDiff,reduceEqDiff,reduceMul,↓reduceIte];done)|fail) only [sA,↓reduceIte,reduceLT,reduceEqDiff,reduceAdd,reduceLeDiff,s1,s3]
  · have hf:fineI N=false:=by rw [← Bool.not_eq_true,fineI_iff]; omega
    rw [hf,Bool.false_and,Bool.false_and]
    simp (disch:=first|assumption|omega|(simp (disch:=first|assumption|omega) only [sB,reduceAdd,reduceLT,reduceLeDiff,reduceEqDiff,reduceMul,↓reduceIte];done)|fail) only [sA,↓reduceIte,reduceLT,reduceEqDiff,reduceAdd,reduceLeDiff,s1,s3]
theorem refNormA (N:Int) (d:D) (l:List LV) (ad:Nat→D) (S:Sv 2 encV n h d l ad):callFn (LX (cFk kL Try.prog)) n h [(D.agg [.int .i64 (N),d])] (cFk kL Try.prog 122) = .ok (D.tup [.agg [.int .i64 (Lev.nrm ⟨N,l⟩).1.n,slD 2 encV (Sl.app (Lev.nrm ⟨N,l⟩).1.v)],.int .i64 (Lev.nrm ⟨N,l⟩).2]) n h:=by
  have hgn:=hg n (Nat.le_refl _)
  have s3:=S.okD
  have H0:Hp n h (n+2) ((n+1,(Ob.row 2 [.agg [.int .i64 0,.nils]])) :: (n,(Ob.row 2 [.agg [.int .i64 (N),d]]))::h) := ((Hp.start hg).cons (r:=n) (m:=n+1) (Nat.le_refl _) (by omega) (fun k hk=>S.box2 (by omega))).box (m:=n+2) (r:=n+1) (by omega) (by omega) rfl
  have c1:∀ m,n+2≤m→callFn (LX (cFk kL Try.prog)) m ((n+1,(Ob.row 2 [.agg [.int .i64 0,.nils]])) :: (n,(Ob.row 2 [.agg [.int .i64 (N),d]]))::h) [(D.agg [.int .i64 (N),d])] (cFk kL Try.prog 131) = .ok (.bool (Lev.right ⟨N,l⟩)) m ((n+1,(Ob.row 2 [.agg [.int .i64 0,.nils]])) :: (n,(Ob.row 2 [.agg [.int .i64 (N),d]]))::h):=fun m hm=>refRightA m _ (H0.good' hm) N d l ad (S.mono H0 hm)
  unfold Lev.nrm
  by_cases hb:Lev.right ⟨N,l⟩=true
  · have hr:=right_iff.1 hb
    have c0:∀ m,n+2≤m→callFn (LX (cFk kL Try.prog)) m ((n+1,(Ob.row 2 [.agg [.int .i64 0,.nils]])) :: (n,(Ob.row 2 [.agg [.int .i64 (N),d]]))::h) [(D.agg [.int .i64 (N),d])] (cFk kL Try.prog 132) = .ok (D.agg [.int .i64 (Lev.norm ⟨N,l⟩).n,slD 2 encV (Sl.app (Lev.norm ⟨N,l⟩).v)]) m ((n+1,(Ob.row 2 [.agg [.int .i64 0,.nils]])) :: (n,(Ob.row 2 [.agg [.int .i64 (N),d]]))::h):=fun m hm=>refTidy m _ (H0.good' hm) N d l ad (S.mono H0 hm) (by have:l.length≤64:=hr.2.1; omega) (fun p hp => (hr.2.2 p hp).1.1) (by have:=hr.1; simp at this; omega)
    generalize hN:Lev.norm ⟨N,l⟩=M at c0 ⊢
    obtain ⟨Mn,Mv⟩:=M
    rw [if_pos hb]
    rw [hb] at c1
    rw [f122_eq]; unfold c122; rw [callFn_eq (by rfl)]
    simp (disch:=first|assumption|omega|(simp (disch:=first|assumption|omega) only [sB,reduceAdd,reduceLT,reduceLeDiff,reduceEqDiff,reduceMul,↓reduceIte];done)|fail) only [sA,↓reduceIte,reduceLT,reduceEqDiff,reduceAdd,reduceLeDiff,c0,c1,s3]
  · rw [if_neg hb]
    rw [Bool.not_eq_true] at hb
    rw [hb] at c1
    rw [f122_eq]; unfold c122; rw [callFn_eq (by rfl)]
    simp (disch:=first|assumption|omega|(simp (disch:=first|assumption|omega) only [sB,reduceAdd,reduceLT,reduceLeDiff,reduceEqDiff,reduceMul,↓reduceIte];done)|fail) only [sA,↓reduceIte,reduceLT,reduceEqDiff,reduceAdd,reduceLeDiff,c1,s3,slD_nil]
end
end Go.Proofs.Ytdijijblccmfbaa
/- Whether two levels are one in all fields; the reference's Suc and Max. No condition. -/
set_option linter.unusedSimpArgs false
set_option linter.unusedVariables false
namespace Go.Proofs.Ytdijijblccmfbaa
open Go
open Nat (reduceAdd reduceLT reduceLeDiff reduceEqDiff reduceMul)

theorem take_inj {α:Type} {l m:List α} {i:Nat} (hl:i < l.length) (hm:i < m.length):l.take (i+1)=m.take (i+1)↔l.take i=m.take i∧l[i]=m[i]:=by
  rw [List.take_succ_eq_append_getElem hl,List.take_succ_eq_append_getElem hm]
  constructor
  · intro h
    have:=List.append_inj h (by rw [List.length_take,List.length_take]; omega)
    exact ⟨this.1,by simpa using this.2⟩
  · rintro ⟨h1,h2⟩
    rw [h1,h2]
theorem take_ne {α:Type} {l m:List α} {i:Nat} (hl:i < l.length) (hm:i < m.length) (h:l[i]≠m[i]):l≠m:=fun e=>h (by subst e; rfl)

end Go.Proofs.Ytdijijblccmfbaa
set_option linter.unusedSimpArgs false
set_option linter.unusedVariables false
namespace Go.Proofs.Ytdijijblccmfbaa
open Go
open Nat (reduceAdd reduceLT reduceLeDiff reduceEqDiff reduceMul)

theorem eqV (p q:LV):eqD (.struct [.int .i64,.int .i64]) (encV p) (encV q) = .ok (decide (p=q)):=by
  unfold encV
  rw [eqD_struct]
  by_cases h1:p.1=q.1
  · by_cases h2:p.2=q.2
    · rw [decide_eq_true (Prod.ext h1 h2:p=q)]
      simp (disch:=first|assumption|omega|(simp (disch:=first|assumption|omega) only [sB,reduceAdd,reduceLT,reduceLeDiff,reduceEqDiff,reduceMul,↓reduceIte];done)|fail) only [sA,↓reduceIte,reduceLT,reduceEqDiff,reduceAdd,reduceLeDiff]
    · rw [decide_eq_false (fun e=>h2 (by rw [e]):¬ p=q)]
      simp (disch:=first|assumption|omega|(simp (disch:=first|assumption|omega) only [sB,reduceAdd,reduceLT,reduceLeDiff,reduceEqDiff,reduceMul,↓reduceIte];done)|fail) only [sA,↓reduceIte,reduceLT,reduceEqDiff,reduceAdd,reduceLeDiff]
  · rw [decide_eq_false (fun e=>h1 (by rw [e]):¬ p=q)]
    simp (disch:=first|assumption|omega|(simp (disch:=first|assumption|omega) only [sB,reduceAdd,reduceLT,reduceLeDiff,reduceEqDiff,reduceMul,↓reduceIte];done)|fail) only [sA,↓reduceIte,reduceLT,reduceEqDiff,reduceAdd,reduceLeDiff]

theorem slEqual (n:Nat) (h:Hps) (hg:∀ k,n≤k→GoodAt k h) (s s':Sl LV) (hs:s.el.length < 1000000000000) (hs':s'.el.length < 1000000000000) :
    callFn (LX (cFk kL Try.prog)) n h [slD 2 encV s,slD 2 encV s'] (cFk kL Try.prog 124) = .ok (.bool (decide (s.el=s'.el))) n h:=by
  have hgn:=hg n (Nat.le_refl _)
  have H0:Hp n h n h:=Hp.start hg
  have A:=svV (n:=n) (h:=h) s
  have A':=svV (n:=n) (h:=h) s'
  have s1:=A.len
  have s2:=A.idx
  have s3:=A.okD
  have t1:=A'.len
  have t2:=A'.idx
  have t3:=A'.okD
  rw [f124_eq]; unfold c124; rw [callFn_eq (by rfl)]
  by_cases h2:s.el.length=s'.el.length
  · simp (disch:=first|assumption|omega|(simp (disch:=first|assumption|omega) only [sB,reduceAdd,reduceLT,reduceLeDiff,reduceEqDiff,reduceMul,↓reduceIte];done)|fail) only [sA,↓reduceIte,reduceLT,reduceEqDiff,reduceAdd,reduceLeDiff,s1,s3,t1,t3]
    generalize hr:LX (cFk kL Try.prog) (.loop l124_0) _ _ _=r
    obtain ⟨x,e2,n2,h2',rfl,H2,q⟩:=loop_up hr s.el.length
      (fun i e n' h'=>Hp n h n' h'∧s.el.take i=s'.el.take i∧get (po 0) e=slD 2 encV s∧get (po 1) e=slD 2 encV s'∧get (po 12) e = .int .i64 (s.el.length:Nat)∧get (po 13) e = .int .i64 (i:Nat))
      (fun x e n' h'=>Hp n h n' h' ∧ ((x = .exit 0∧s.el=s'.el) ∨ (x = .ret∧s.el≠s'.el∧get (po 4) e = .bool false)))
      (by
        rintro e n' h' ⟨H,ht,g0,g1,g12,g13⟩
        unfold l124_0
        rw [List.take_length,h2,List.take_length] at ht
        simp (disch:=first|assumption|omega|(simp (disch:=first|assumption|omega) only [sB,reduceAdd,reduceLT,reduceLeDiff,reduceEqDiff,reduceMul,↓reduceIte];done)|fail) only [sA,↓reduceIte,reduceLT,reduceEqDiff,reduceAdd,reduceLeDiff,g12,g13]
        exact ⟨_,_,_,_,rfl,by simp,H.mono (by omega),.inl ⟨rfl,ht⟩⟩)
      (by
        rintro i e n' h' hi ⟨H,ht,g0,g1,g12,g13⟩
        have hi':i < s'.el.length:=by omega
        have s4:=A.at H
        have t4:=A'.at H
        unfold l124_0
        by_cases a1:s.el[i]=s'.el[i]
        · have a2:decide (s.el[i]=s'.el[i])=true:=decide_eq_true a1
          simp (disch:=first|assumption|omega|(simp (disch:=first|assumption|omega) only [sB,reduceAdd,reduceLT,reduceLeDiff,reduceEqDiff,reduceMul,↓reduceIte];done)|fail) only [sA,↓reduceIte,reduceLT,reduceEqDiff,reduceAdd,reduceLeDiff,g0,g1,g12,g13,s1,s2,s3,s4,t1,t2,t3,t4,eqV,a2]
          exact ⟨_,_,_,_,rfl,.inl ⟨rfl,H.mono (by omega),(take_inj hi hi').2 ⟨ht,a1⟩,by simp +decide only [sG,g0],by simp +decide only [sG,g1],by simp +decide only [sG,g12],by simp +decide only [sG]⟩⟩
        · have a2:decide (s.el[i]=s'.el[i])=false:=decide_eq_false a1
          simp (disch:=first|assumption|omega|(simp (disch:=first|assumption|omega) only [sB,reduceAdd,reduceLT,reduceLeDiff,reduceEqDiff,reduceMul,↓reduceIte];done)|fail) only [sA,↓reduceIte,reduceLT,reduceEqDiff,reduceAdd,reduceLeDiff,g0,g1,g12,g13,s1,s2,s3,s4,t1,t2,t3,t4,eqV,a2]
          exact ⟨_,_,_,_,rfl,.inr ⟨by simp,H.mono (by omega),.inr ⟨rfl,take_ne hi hi' a1,by simp +decide only [sG]⟩⟩⟩)
      ⟨H0.mono (by omega),by simp,by simp +decide only [sG],by simp +decide only [sG],by simp +decide only [sG],by simp (disch:=first|assumption|omega|(simp (disch:=first|assumption|omega) only [sB,reduceAdd,reduceLT,reduceLeDiff,reduceEqDiff,reduceMul,↓reduceIte];done)|fail) only [sA,↓reduceIte,reduceLT,reduceEqDiff,reduceAdd,reduceLeDiff]⟩
    rcases q with ⟨rfl,q⟩ | ⟨rfl,q,q2⟩
    · rw [decide_eq_true q]
      simp (disch:=first|assumption|omega|(simp (disch:=first|assumption|omega) only [sB,reduceAdd,reduceLT,reduceLeDiff,reduceEqDiff,reduceMul,↓reduceIte];done)|fail) only [sA,↓reduceIte,reduceLT,reduceEqDiff,reduceAdd,reduceLeDiff,finish_flat (d := .bool true) rfl (H2.mono (show n2≤n2+1 by omega))]
    · rw [decide_eq_false q]
      simp (disch:=first|assumption|omega|(simp (disch:=first|assumption|omega) only [sB,reduceAdd,reduceLT,reduceLeDiff,reduceEqDiff,reduceMul,↓reduceIte];done)|fail) only [sA,↓reduceIte,reduceLT,reduceEqDiff,reduceAdd,reduceLeDiff,q2,finish_flat (d := .bool false) rfl H2]
  · rw [decide_eq_false (fun e=>h2 (by rw [e]))]
    simp (disch:=first|assumption|omega|(simp (disch:=first|assumption|omega) only [sB,reduceAdd,reduceLT,reduceLeDiff,reduceEqDiff,reduceMul,↓reduceIte];done)|fail) only [sA,↓reduceIte,reduceLT,reduceEqDiff,reduceAdd,reduceLeDiff,s1,s3,t1,t3]

end Go.Proofs.Ytdijijblccmfbaa
