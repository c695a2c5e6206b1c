/- Merged: TXE TXF. Rows turned round; the head of a row of applications. No condition but sizes. -/
import Derived.Test.YtpbpmpabndgeeaaTMA
import Derived.Test.YtpbpmpabndgeeaaCE
import Derived.Test.YtpbpmpabndgeeaaTMD

/- Rows turned round in place. No condition but sizes. -/
set_option linter.unusedSimpArgs false
set_option linter.unusedVariables false
namespace Go.Proofs.Ytpbpmpabndgeeaa
open Go
open Nat (reduceAdd reduceLT reduceLeDiff reduceEqDiff reduceMul)

def Turn {α:Type} (l:List α) (k:Nat) (L:List α):Prop:=L.length=l.length∧∀ p,p < l.length→L[p]? = if p < k∨l.length - k≤p then l[l.length - 1 - p]? else l[p]?
theorem Turn.zero {α:Type} (l:List α):Turn l 0 l:=⟨rfl,fun p hp=>by rw [if_neg (by omega)]⟩
theorem Turn.step {α:Type} {l L:List α} {k j:Nat} (T:Turn l k L) (hj:j+k+1=l.length) (hkj:k < j) (hk:k < L.length) (hjl:j < L.length):Turn l (k+1) ((L.set k L[j]).set j L[k]):=by
  obtain ⟨h1,h2⟩:=T
  refine ⟨by rw [List.length_set,List.length_set,h1],fun p hp=>?_⟩
  have a:=h2 k (by omega)
  have b:=h2 j (by omega)
  rw [if_neg (by omega),List.getElem?_eq_getElem hk] at a
  rw [if_neg (by omega),List.getElem?_eq_getElem hjl] at b
  rw [List.getElem?_set,List.getElem?_set]
  by_cases e1:j=p
  · subst e1
    rw [if_pos rfl,if_pos (by rw [List.length_set]; exact hjl),if_pos (by omega),a]
    congr 1; omega
  · rw [if_neg e1]
    by_cases e2:k=p
    · subst e2
      rw [if_pos rfl,if_pos hk,if_pos (by omega),b]
      congr 1; omega
    · rw [if_neg e2,h2 p hp]
      by_cases c:p < k∨l.length - k≤p
      · rw [if_pos c,if_pos (by omega)]
      · rw [if_neg c,if_neg (by omega)]
theorem Turn.all {α:Type} {l L:List α} {k:Nat} (T:Turn l k L) (hk:l.length≤2*k+1):L=l.reverse:=by
  obtain ⟨h1,h2⟩:=T
  refine List.ext_getElem? fun p=>?_
  by_cases hp:p < l.length
  · rw [h2 p hp,List.getElem?_reverse hp]
    by_cases c:p < k∨l.length - k≤p
    · rw [if_pos c]
    · rw [if_neg c]; congr 1; omega
  · rw [List.getElem?_eq_none (by omega),List.getElem?_eq_none (by rw [List.length_reverse]; omega)]
theorem gd_set {n q:Nat} {h:Hps} {x:Ob} (hg:Gd n h) (hq:q < n) (hx:∀ k,n≤k→lowO k x):Gd n (setO h q x):=fun k hk p hp=>by
  rcases mem_setO hp with rfl | hp
  · exact ⟨by show q < k; omega,hx k hk⟩
  · exact hg k hk p hp
theorem rev_nil (n:Nat) (h:Hps) (hg:Gd n h):callFn (LX (cF Try.prog)) n h [.nils] (cF Try.prog 71) = .ok (.tup []) n h:=by
  have hgn:=hg n (Nat.le_refl _)
  rw [f71_eq]; unfold c71; rw [callFn_eq (by rfl)]
  simp (disch:=first|assumption|omega|(simp (disch:=first|assumption|omega) only [sB,reduceAdd,reduceLT,reduceLeDiff,reduceEqDiff,reduceMul,↓reduceIte];done)|fail) only [sA,↓reduceIte,reduceLT,reduceEqDiff,reduceAdd,reduceLeDiff,LX_loop,l71_0]
set_option maxHeartbeats 8000000 in
theorem rev_tm (n:Nat) (h:Hps) (hg:Gd n h) (q:Nat) (l:List Tm) (hq:q < n) (hl:0 < l.length∧l.length≤1000000000) (hb:getO h q = .row 6 (l.map encT)) :
    callFn (LX (cF Try.prog)) n h [.ms 6 q 0 l.length false] (cF Try.prog 71) = .ok (.tup []) n (setO h q (.row 6 (l.reverse.map encT))):=by
  have hgn:=hg n (Nat.le_refl _)
  have hsub : ((l.length:Nat):Int) - 1 = ((l.length - 1:Nat):Int):=by omega
  rw [f71_eq]; unfold c71; rw [callFn_eq (by rfl)]
  simp (disch:=first|assumption|omega|(simp (disch:=first|assumption|omega) only [sB,reduceAdd,reduceLT,reduceLeDiff,reduceEqDiff,reduceMul,↓reduceIte];done)|fail) only [sA,↓reduceIte,reduceLT,reduceEqDiff,reduceAdd,reduceLeDiff]
  generalize hr:LX (cF Try.prog) (.loop l71_0) _ _ _=R
  obtain ⟨x,ez,nz,G,rfl,rfl,p2,rfl⟩:=loop_up hr ((l.length) / 2)
    (fun i e n' G=>n≤n' ∧ (∃ L,G=setO h q (.row 6 (L.map encT))∧Turn l i L)∧get (po 0) e = .ms 6 q 0 l.length false∧get (po 2) e = .int .i64 (i:Nat)∧get (po 3) e = .int .i64 ((l.length:Nat) - 1 - (i:Nat):Int))
    (fun x e n' G=>x = .exit 0∧n≤n'∧G=setO h q (.row 6 (l.reverse.map encT)))
    (by
      rintro e n' G ⟨p1,⟨L,rfl,T⟩,q0,q2,q3⟩
      have hlt:¬ (((l.length / 2:Nat):Int) < (l.length:Nat) - 1 - ((l.length / 2:Nat):Int)):=by omega
      unfold l71_0
      simp (disch:=first|assumption|omega|(simp (disch:=first|assumption|omega) only [sB,reduceAdd,reduceLT,reduceLeDiff,reduceEqDiff,reduceMul,↓reduceIte];done)|fail) only [sA,↓reduceIte,reduceLT,reduceEqDiff,reduceAdd,reduceLeDiff,q2,q3,hlt]
      exact ⟨_,_,_,_,rfl,by simp,rfl,by omega,by rw [T.all (by omega)]⟩)
    (by
      rintro i e n' G hi ⟨p1,⟨L,rfl,T⟩,q0,q2,q3⟩
      obtain ⟨j,hj⟩:∃ j,j+i+1=l.length:=⟨l.length - 1 - i,by omega⟩
      have e3 : ((l.length:Nat) - 1 - (i:Nat):Int) = ((j:Nat):Int):=by omega
      rw [e3] at q3
      have hij : ((i:Nat):Int) < ((j:Nat):Int):=by omega
      have hTl:=T.1
      have hiL:i < L.length:=by omega
      have hjL:j < L.length:=by omega
      have gq:getO (setO h q (.row 6 (L.map encT))) q = .row 6 (L.map encT):=getO_set1 hb
      have gq2:∀ X,getO (setO h q X) q=X:=fun X=>getO_set1 hb
      have ei : (L.map encT).getD i .junk = (D.agg [.int .i64 (L[i]).form,.int .i64 (L[i]).n,.bool (L[i]).hid,.str (L[i]).name,slD 2 encL (L[i]).levels,slD 6 encT (L[i]).kids]):=by rw [List.getD_eq_getElem?_getD,List.getElem?_map,List.getElem?_eq_getElem hiL]; exact encT_eq _
      have ej : (L.map encT).getD j .junk = (D.agg [.int .i64 (L[j]).form,.int .i64 (L[j]).n,.bool (L[j]).hid,.str (L[j]).name,slD 2 encL (L[j]).levels,slD 6 encT (L[j]).kids]):=by rw [List.getD_eq_getElem?_getD,List.getElem?_map,List.getElem?_eq_getElem hjL]; exact encT_eq _
      have hil:i < l.length:=by omega
      have hjl:j < l.length:=by omega
      have hjL2:j < (L.set i L[j]).length:=by rw [List.length_set]; exact hjL
      have lo:∀ X:List Tm,∀ k,lowO k (.row 6 (X.map encT)):=fun X k=>lowO_map (fun x=>low_flat (flatT x))
      have hky:∀ X:List Tm,∀ m,n≤m→keysFrom m (setO h q (.row 6 (X.map encT)))=[]:=fun X m hm=>keys_low (gd_set hg hq (fun k _=>lo X k) m hm)
      unfold l71_0
      simp (disch:=first|assumption|omega|(simp (disch:=first|assumption|omega) only [sB,reduceAdd,reduceLT,reduceLeDiff,reduceEqDiff,reduceMul,↓reduceIte,hil,hjl,hiL,hjL,hjL2];done)|fail) only [sA,↓reduceIte,reduceLT,reduceEqDiff,reduceAdd,reduceLeDiff,q0,q2,q3,hij,iaddr_ms,gq2,ei,ej,store_tm,setO_setO,hky,hil,hjl,hiL,hjL,hjL2]
      refine ⟨_,_,_,_,rfl,.inl ⟨rfl,by omega,⟨(L.set i L[j]).set j L[i],rfl,T.step hj (by omega) hiL hjL⟩,by simp +decide only [sG,q0],by simp +decide only [sG],?_⟩⟩
      rw [show (((l.length:Nat):Int) - 1 - ((i+1:Nat):Int)) = ((j:Nat):Int) - 1 by omega]
      simp (disch:=first|assumption|omega|(simp (disch:=first|assumption|omega) only [sB,reduceAdd,reduceLT,reduceLeDiff,reduceEqDiff,reduceMul,↓reduceIte];done)|fail) only [sA,↓reduceIte,reduceLT,reduceEqDiff,reduceAdd,reduceLeDiff])
    ⟨by omega,⟨l,(setO_self hb).symm,Turn.zero l⟩,by simp +decide only [sG],by simp (disch:=first|assumption|omega|(simp (disch:=first|assumption|omega) only [sB,reduceAdd,reduceLT,reduceLeDiff,reduceEqDiff,reduceMul,↓reduceIte];done)|fail) only [sA,↓reduceIte,reduceLT,reduceEqDiff,reduceAdd,reduceLeDiff],by
      rw [show (((l.length:Nat):Int) - 1 - ((0:Nat):Int)) = ((l.length:Nat):Int) - 1 by omega]
      simp (disch:=first|assumption|omega|(simp (disch:=first|assumption|omega) only [sB,reduceAdd,reduceLT,reduceLeDiff,reduceEqDiff,reduceMul,↓reduceIte];done)|fail) only [sA,↓reduceIte,reduceLT,reduceEqDiff,reduceAdd,reduceLeDiff]⟩
  have H:Hp n (setO h q (.row 6 (l.reverse.map encT))) n (setO h q (.row 6 (l.reverse.map encT))):=Hp.start (gd_set hg hq (fun k _=>lowO_map (fun x=>low_flat (flatT x))))
  simp (disch:=first|assumption|omega|(simp (disch:=first|assumption|omega) only [sB,reduceAdd,reduceLT,reduceLeDiff,reduceEqDiff,reduceMul,↓reduceIte];done)|fail) only [sA,↓reduceIte,reduceLT,reduceEqDiff,reduceAdd,reduceLeDiff,finish_flat (d := .tup []) rfl (H.mono p2)]
def encB (b:Bool):D := .bool b
theorem store_b {m q i:Nat} {h:Hps} {l:List Bool} {x:Bool} (hi:i < l.length):storeR false 1 q i 0 (.bool x) m h (.row 1 (l.map encB)) = .ok .junk m (setO h q (.row 1 ((l.set i x).map encB))):=by
  have e1:nth (l.map encB) i = .bool l[i]:=by rw [nth_eq,List.getD_eq_getElem?_getD,List.getElem?_map,List.getElem?_eq_getElem hi]; rfl
  show storeS q 1 i (l.map encB) m h (setS false 1 0 (nth (l.map encB) i) (.bool x))=_
  rw [e1]
  show ifR (Nat.blt i (lenL (l.map encB))) (.ok .junk m (setO h q (.row 1 (put (l.map encB) i (.bool x)))))=_
  rw [lenL_eq,List.length_map,blt_iff,decide_eq_true hi,put_eq,List.map_set]
  rfl
theorem rev_nilb (n:Nat) (h:Hps) (hg:Gd n h):callFn (LX (cF Try.prog)) n h [.nils] (cF Try.prog 72) = .ok (.tup []) n h:=by
  have hgn:=hg n (Nat.le_refl _)
  rw [f72_eq]; unfold c72; rw [callFn_eq (by rfl)]
  simp (disch:=first|assumption|omega|(simp (disch:=first|assumption|omega) only [sB,reduceAdd,reduceLT,reduceLeDiff,reduceEqDiff,reduceMul,↓reduceIte];done)|fail) only [sA,↓reduceIte,reduceLT,reduceEqDiff,reduceAdd,reduceLeDiff,LX_loop,l72_0]
set_option maxHeartbeats 8000000 in
theorem rev_bool (n:Nat) (h:Hps) (hg:Gd n h) (q:Nat) (l:List Bool) (hq:q < n) (hl:0 < l.length∧l.length≤1000000000) (hb:getO h q = .row 1 (l.map encB)) :
    callFn (LX (cF Try.prog)) n h [.ms 1 q 0 l.length false] (cF Try.prog 72) = .ok (.tup []) n (setO h q (.row 1 (l.reverse.map encB))):=by
  have hgn:=hg n (Nat.le_refl _)
  have hsub : ((l.length:Nat):Int) - 1 = ((l.length - 1:Nat):Int):=by omega
  rw [f72_eq]; unfold c72; rw [callFn_eq (by rfl)]
  simp (disch:=first|assumption|omega|(simp (disch:=first|assumption|omega) only [sB,reduceAdd,reduceLT,reduceLeDiff,reduceEqDiff,reduceMul,↓reduceIte];done)|fail) only [sA,↓reduceIte,reduceLT,reduceEqDiff,reduceAdd,reduceLeDiff]
  generalize hr:LX (cF Try.prog) (.loop l72_0) _ _ _=R
  obtain ⟨x,ez,nz,G,rfl,rfl,p2,rfl⟩:=loop_up hr ((l.length) / 2)
    (fun i e n' G=>n≤n' ∧ (∃ L,G=setO h q (.row 1 (L.map encB))∧Turn l i L)∧get (po 0) e = .ms 1 q 0 l.length false∧get (po 2) e = .int .i64 (i:Nat)∧get (po 3) e = .int .i64 ((l.length:Nat) - 1 - (i:Nat):Int))
    (fun x e n' G=>x = .exit 0∧n≤n'∧G=setO h q (.row 1 (l.reverse.map encB)))
    (by
      rintro e n' G ⟨p1,⟨L,rfl,T⟩,q0,q2,q3⟩
      have hlt:¬ (((l.length / 2:Nat):Int) < (l.length:Nat) - 1 - ((l.length / 2:Nat):Int)):=by omega
      unfold l72_0
      simp (disch:=first|assumption|omega|(simp (disch:=first|assumption|omega) only [sB,reduceAdd,reduceLT,reduceLeDiff,reduceEqDiff,reduceMul,↓reduceIte];done)|fail) only [sA,↓reduceIte,reduceLT,reduceEqDiff,reduceAdd,reduceLeDiff,q2,q3,hlt]
      exact ⟨_,_,_,_,rfl,by simp,rfl,by omega,by rw [T.all (by omega)]⟩)
    (by
      rintro i e n' G hi ⟨p1,⟨L,rfl,T⟩,q0,q2,q3⟩
      obtain ⟨j,hj⟩:∃ j,j+i+1=l.length:=⟨l.length - 1 - i,by omega⟩
      have e3 : ((l.length:Nat) - 1 - (i:Nat):Int) = ((j:Nat):Int):=by omega
      rw [e3] at q3
      have hij : ((i:Nat):Int) < ((j:Nat):Int):=by omega
      have hTl:=T.1
      have hiL:i < L.length:=by omega
      have hjL:j < L.length:=by omega
      have gq:getO (setO h q (.row 1 (L.map encB))) q = .row 1 (L.map encB):=getO_set1 hb
      have gq2:∀ X,getO (setO h q X) q=X:=fun X=>getO_set1 hb
      have ei : (L.map encB).getD i .junk=D.bool L[i]:=by rw [List.getD_eq_getElem?_getD,List.getElem?_map,List.getElem?_eq_getElem hiL]; exact rfl
      have ej : (L.map encB).getD j .junk=D.bool L[j]:=by rw [List.getD_eq_getElem?_getD,List.getElem?_map,List.getElem?_eq_getElem hjL]; exact rfl
      have hil:i < l.length:=by omega
      have hjl:j < l.length:=by omega
      have hjL2:j < (L.set i L[j]).length:=by rw [List.length_set]; exact hjL
      have lo:∀ X:List Bool,∀ k,lowO k (.row 1 (X.map encB)):=fun X k=>lowO_map (fun x=>low_flat rfl)
      have hky:∀ X:List Bool,∀ m,n≤m→keysFrom m (setO h q (.row 1 (X.map encB)))=[]:=fun X m hm=>keys_low (gd_set hg hq (fun k _=>lo X k) m hm)
      unfold l72_0
      simp (disch:=first|assumption|omega|(simp (disch:=first|assumption|omega) only [sB,reduceAdd,reduceLT,reduceLeDiff,reduceEqDiff,reduceMul,↓reduceIte,hil,hjl,hiL,hjL,hjL2];done)|fail) only [sA,↓reduceIte,reduceLT,reduceEqDiff,reduceAdd,reduceLeDiff,q0,q2,q3,hij,iaddr_ms,gq2,ei,ej,store_b,setO_setO,hky,hil,hjl,hiL,hjL,hjL2]
      refine ⟨_,_,_,_,rfl,.inl ⟨rfl,by omega,⟨(L.set i L[j]).set j L[i],rfl,T.step hj (by omega) hiL hjL⟩,by simp +decide only [sG,q0],by simp +decide only [sG],?_⟩⟩
      rw [show (((l.length:Nat):Int) - 1 - ((i+1:Nat):Int)) = ((j:Nat):Int) - 1 by omega]
      simp (disch:=first|assumption|omega|(simp (disch:=first|assumption|omega) only [sB,reduceAdd,reduceLT,reduceLeDiff,reduceEqDiff,reduceMul,↓reduceIte];done)|fail) only [sA,↓reduceIte,reduceLT,reduceEqDiff,reduceAdd,reduceLeDiff])
    ⟨by omega,⟨l,(setO_self hb).symm,Turn.zero l⟩,by simp +decide only [sG],by simp (disch:=first|assumption|omega|(simp (disch:=first|assumption|omega) only [sB,reduceAdd,reduceLT,reduceLeDiff,reduceEqDiff,reduceMul,↓reduceIte];done)|fail) only [sA,↓reduceIte,reduceLT,reduceEqDiff,reduceAdd,reduceLeDiff],by
      rw [show (((l.length:Nat):Int) - 1 - ((0:Nat):Int)) = ((l.length:Nat):Int) - 1 by omega]
      simp (disch:=first|assumption|omega|(simp (disch:=first|assumption|omega) only [sB,reduceAdd,reduceLT,reduceLeDiff,reduceEqDiff,reduceMul,↓reduceIte];done)|fail) only [sA,↓reduceIte,reduceLT,reduceEqDiff,reduceAdd,reduceLeDiff]⟩
  have H:Hp n (setO h q (.row 1 (l.reverse.map encB))) n (setO h q (.row 1 (l.reverse.map encB))):=Hp.start (gd_set hg hq (fun k _=>lowO_map (fun x=>low_flat rfl)))
  simp (disch:=first|assumption|omega|(simp (disch:=first|assumption|omega) only [sB,reduceAdd,reduceLT,reduceLeDiff,reduceEqDiff,reduceMul,↓reduceIte];done)|fail) only [sA,↓reduceIte,reduceLT,reduceEqDiff,reduceAdd,reduceLeDiff,finish_flat (d := .tup []) rfl (H.mono p2)]
end Go.Proofs.Ytpbpmpabndgeeaa

/- The program's Spine,as it lies in package raw. No condition but sizes. -/
namespace Go.Proofs.Ytpbpmpabndgeeaa
open Go
open Nat (reduceAdd reduceLT reduceLeDiff reduceEqDiff reduceMul)

def spn:Tm→Tm×List Tm×List Bool
  | .mk f n hd nm ls nl fl (k0::k1::ks) sp=>if f=5 then ((spn k0).1,(spn k0).2.1++[k1],(spn k0).2.2++[hd]) else (.mk f n hd nm ls nl fl (k0::k1::ks) sp,[],[])
  | t => (t,[],[])
theorem spn_app {t k0 k1:Tm} (hf:t.form=5) (hk:t.kids.el=[k0,k1]):spn t = ((spn k0).1,(spn k0).2.1++[k1],(spn k0).2.2++[t.hid]):=by
  cases t with
  | mk f n hd nm ls nl fl ks sp =>
    have hk':ks=[k0,k1]:=hk
    have hf':f=5:=hf
    subst hk' hf'
    rw [spn,if_pos rfl]; rfl
theorem spn_head {t:Tm} (hf:t.form≠5):spn t = (t,[],[]):=by
  cases t with
  | mk f n hd nm ls nl fl ks sp =>
    have hf':f≠5:=hf
    match ks with
    | []=>simp [spn]
    | [k]=>simp [spn]
    | k0::k1::ks=>rw [spn,if_neg hf']
theorem elemB:ElemOk 1 encB:=⟨fun _=>rfl,fun _=>rfl⟩
theorem offA {n0 n1:Nat} {A:List Tm} {B:List Bool} {G:Hps} {dA dB:D} (hA:Bld 6 encT n0 A G dA) (hB:Bld 1 encB n1 B G dB) : (∀ r,dB = .ms 1 r 0 B.length false→off r dA)∧∀ r,dA = .ms 6 r 0 A.length false→off r dB:=by
  refine ⟨fun r e k o l f e2=>?_,fun r e k o l f e2=>?_⟩
  · rcases hA with ⟨_,rfl⟩ | ⟨q,_,_,rfl,gA⟩
    · cases e2
    · rcases hB with ⟨_,rfl⟩ | ⟨p,_,_,rfl,gB⟩
      · cases e
      · injection e with _ e _ _ _
        injection e2 with _ e2 _ _ _
        have:q=p:=by omega
        rw [this,gB] at gA
        injection gA with e3 _
        cases e3
  · rcases hA with ⟨_,rfl⟩ | ⟨q,_,_,rfl,gA⟩
    · cases e
    · rcases hB with ⟨_,rfl⟩ | ⟨p,_,_,rfl,gB⟩
      · cases e2
      · injection e with _ e _ _ _
        injection e2 with _ e2 _ _ _
        have:q=p:=by omega
        rw [this,gB] at gA
        injection gA with e3 _
        cases e3
theorem rev_bldA {n0 n m:Nat} {h G:Hps} {A:List Tm} {dA:D} (B:Bld 6 encT n0 A G dA) (H:Hp n h m G) (hn:n≤n0) (hl:A.length≤1000000000):∃ G',(∀ k,m≤k→callFn (LX (cF Try.prog)) k G [dA] (cF Try.prog 71) = .ok (.tup []) k G')∧Bld 6 encT n0 A.reverse G' dA∧Hp n h m G'∧∀ r,off r dA→getO G' r=getO G r:=by
  rcases B with ⟨rfl,rfl⟩ | ⟨q,h1,h2,rfl,h3⟩
  · exact ⟨G,fun k hk=>rev_nil k G (H.good' hk),.inl ⟨rfl,rfl⟩,H,fun _ _=>rfl⟩
  · have hq:=getO_low (H.good m (Nat.le_refl _)) (show getO G q ≠ .none by rw [h3]; exact fun h=>by cases h)
    refine ⟨setO G q (.row 6 (A.reverse.map encT)),fun k hk=>rev_tm k G (H.good' hk) q A (by omega) ⟨List.length_pos_iff.2 h1,hl⟩ h3,.inr ⟨q,by simpa using h1,h2,by rw [List.length_reverse],getO_set1 h3⟩,H.set (by omega) (fun k _=>lowO_map (fun x=>low_flat (flatT x))),fun r hr=>?_⟩
    rw [getO_setO _ _ _ _ (by rw [h3]; simp),if_neg (fun e=>hr 6 0 A.length false (by rw [e]))]
theorem rev_bldB {n0 n m:Nat} {h G:Hps} {A:List Bool} {dA:D} (B:Bld 1 encB n0 A G dA) (H:Hp n h m G) (hn:n≤n0) (hl:A.length≤1000000000):∃ G',(∀ k,m≤k→callFn (LX (cF Try.prog)) k G [dA] (cF Try.prog 72) = .ok (.tup []) k G')∧Bld 1 encB n0 A.reverse G' dA∧Hp n h m G'∧∀ r,off r dA→getO G' r=getO G r:=by
  rcases B with ⟨rfl,rfl⟩ | ⟨q,h1,h2,rfl,h3⟩
  · exact ⟨G,fun k hk=>rev_nilb k G (H.good' hk),.inl ⟨rfl,rfl⟩,H,fun _ _=>rfl⟩
  · have hq:=getO_low (H.good m (Nat.le_refl _)) (show getO G q ≠ .none by rw [h3]; exact fun h=>by cases h)
    refine ⟨setO G q (.row 1 (A.reverse.map encB)),fun k hk=>rev_bool k G (H.good' hk) q A (by omega) ⟨List.length_pos_iff.2 h1,hl⟩ h3,.inr ⟨q,by simpa using h1,h2,by rw [List.length_reverse],getO_set1 h3⟩,H.set (by omega) (fun k _=>lowO_map (fun x=>low_flat rfl)),fun r hr=>?_⟩
    rw [getO_setO _ _ _ _ (by rw [h3]; simp),if_neg (fun e=>hr 1 0 A.length false (by rw [e]))]
theorem kids_two {t:Tm} (hf:t.form=5) (hg:formedT t.abs=true):∃ k0 k1,t.kids.el=[k0,k1]∧formedT k0.abs=true∧sizeT k0.abs+1 < sizeT t.abs+0:=by
  rw [formed_tm,Bool.and_eq_true,List.all_eq_true] at hg
  have h1:=hg.1
  rw [part_tm,Bool.and_eq_true,decide_eq_true_iff,hf] at h1
  have hk:t.kids.el.length=2:=by
    have:=h1.1
    rw [show kidsN 5=2 from rfl] at this
    omega
  match e:t.kids.el,hk with
  | [k0,k1],_ =>
    refine ⟨k0,k1,rfl,hg.2 k0 (by rw [e]; simp),?_⟩
    have:=size_abs t
    rw [e,List.map_cons,List.map_cons,List.map_nil,sizeTs_cons,sizeTs_cons,sizeTs_nil] at this
    have:=sizeT_pos k1.abs
    omega
end Go.Proofs.Ytpbpmpabndgeeaa
