/- Merged: TXA TXB TXC TXD. The reference's Clean of a term. No condition but sizes. -/
import Derived.Test.YtdijijblccmfbaaNTX
import Derived.Test.YtdijijblccmfbaaNTMD
import Derived.Test.YtdijijblccmfbaaNCF1
import Derived.Test.YtdijijblccmfbaaNTA

/- The reference's Clean of a term. No condition but sizes. -/
set_option linter.unusedSimpArgs false
set_option linter.unusedVariables false
namespace Go.Proofs.Ytdijijblccmfbaa
open Go
open Nat (reduceAdd reduceLT reduceLeDiff reduceEqDiff reduceMul)

def rclL (x:SLev):SLev:=⟨x.n,Sl.app x.vs.el⟩
mutual
def rcl:Tm→Tm
  | .mk f n hd nm ls _ _ ks _ => .mk f (if f=1∨f=11 then n else 0) (if f=3∨f=4∨f=5 then hd else false) (if f=10 then nm else []) (if f=2∨f=10 then Sl.app (ls.el.map rclL) else Sl.app []) true false (rcls ks) []
def rcls:List Tm→List Tm
  | []=>[]
  | k::t=>rcl k::rcls t
end
theorem rcls_eq (l:List Tm):rcls l=l.map rcl:=by
  induction l with
  | nil=>rw [rcls]; rfl
  | cons k t ih=>rw [rcls,ih]; rfl
theorem rcl_eq (t:Tm):rcl t = .mk t.form (if t.form=1∨t.form=11 then t.n else 0) (if t.form=3∨t.form=4∨t.form=5 then t.hid else false) (if t.form=10 then t.name else []) (if t.form=2∨t.form=10 then Sl.app (t.levels.el.map rclL) else Sl.app []) true false (t.kids.el.map rcl) []:=by cases t; rw [rcl,rcls_eq]; rfl

theorem low_agg6 {m:Nat} {f a:Int} {b:Bool} {c:List Nat} {x y:D} (hx:hasR m 19 x=false) (hy:hasR m 19 y=false):low m (.agg [.int .i64 f,.int .i64 a,.bool b,.str c,x,y]):=low_agg (fun z hz=>by
  rcases List.mem_cons.1 hz with rfl | hz
  · rfl
  rcases List.mem_cons.1 hz with rfl | hz
  · rfl
  rcases List.mem_cons.1 hz with rfl | hz
  · rfl
  rcases List.mem_cons.1 hz with rfl | hz
  · rfl
  rcases List.mem_cons.1 hz with rfl | hz
  · exact hx
  · rw [List.mem_singleton.1 hz]; exact hy)
set_option maxHeartbeats 8000000 in
theorem clKids (n:Nat) (h:Hps) (t:Tm) (hk:t.kids.el.length≤1000000000) (ih:∀ k,k∈t.kids.el→∀ n h,Gd n h→callFn (LX (cFk kL Try.prog)) n h [(D.agg [.int .i64 (k).form,.int .i64 (k).n,.bool (k).hid,.str (k).name,slD 2 encL (k).levels,slD 6 encT (k).kids])] (cFk kL Try.prog 30) = .ok (encT (rcl k)) n h)
    {f a:Int} {b:Bool} {c:List Nat} {dL:D} {e:Tr} {n0:Nat} {h':Hps} {r:Re} (hr:LX (cFk kL Try.prog) (.loop l30_1) e n0 h'=r) (H:Hp n h n0 h') (p0:n+6≤n0) (b0:getO h' n = (Ob.row 6 [.agg [.int .i64 (t).form,.int .i64 (t).n,.bool (t).hid,.str (t).name,slD 2 encL (t).levels,slD 6 encT (t).kids]])) (b5:getO h' (n+5) = .row 6 [.agg [.int .i64 f,.int .i64 a,.bool b,.str c,dL,.nils]])
    (hdL:∀ m,n0≤m→hasR m 19 dL=false)
    (g1:get (po 1) e = .ptr n 0 0) (g2:get (po 2) e = .ptr (n+1) 0 0) (g3:get (po 3) e = .ptr (n+5) 0 0) (g5:get (po 5) e = .int .i64 0) :
    ∃ e' n' h'' dK,r = .ok (.exit 3) e' n' h''∧Hp n h n' h''∧n0≤n'∧getO h'' (n+5) = .row 6 [.agg [.int .i64 f,.int .i64 a,.bool b,.str c,dL,dK]]∧Bld 6 encT n0 (t.kids.el.map rcl) h'' dK ∧ (∀ q,q < n0→q≠n+5→getO h'' q=getO h' q)∧get (po 2) e' = .ptr (n+1) 0 0∧get (po 3) e' = .ptr (n+5) 0 0:=by
  obtain ⟨x,ez,nz,G,rfl,rfl,k1,k2,dK,k3,k4,k5,k6,k7⟩:=loop_up hr t.kids.el.length
    (fun i e n' G=>Hp n h n' G∧n0≤n' ∧ (∃ dK,getO G (n+5) = .row 6 [.agg [.int .i64 f,.int .i64 a,.bool b,.str c,dL,dK]]∧Bld 6 encT n0 ((t.kids.el.take i).map rcl) G dK) ∧ (∀ q,q < n0→q≠n+5→getO G q=getO h' q)∧get (po 1) e = .ptr n 0 0∧get (po 2) e = .ptr (n+1) 0 0∧get (po 3) e = .ptr (n+5) 0 0∧get (po 5) e = .int .i64 (i:Nat))
    (fun x e n' G=>x = .exit 3∧Hp n h n' G∧n0≤n'∧∃ dK,getO G (n+5) = .row 6 [.agg [.int .i64 f,.int .i64 a,.bool b,.str c,dL,dK]]∧Bld 6 encT n0 (t.kids.el.map rcl) G dK ∧ (∀ q,q < n0→q≠n+5→getO G q=getO h' q)∧get (po 2) e = .ptr (n+1) 0 0∧get (po 3) e = .ptr (n+5) 0 0)
    (by
      rintro e n' G ⟨H,p1,⟨dK,z5,B⟩,kp,q1,q2,q3,q5⟩
      rw [List.take_length] at B
      have z0:getO G n = (Ob.row 6 [.agg [.int .i64 (t).form,.int .i64 (t).n,.bool (t).hid,.str (t).name,slD 2 encL (t).levels,slD 6 encT (t).kids]]):=by rw [kp n (by omega) (by omega)]; exact b0
      unfold l30_1
      simp (disch:=first|assumption|omega|(simp (disch:=first|assumption|omega) only [sB,reduceAdd,reduceLT,reduceLeDiff,reduceEqDiff,reduceMul,↓reduceIte];done)|fail) only [sA,↓reduceIte,reduceLT,reduceEqDiff,reduceAdd,reduceLeDiff,q1,q5,z0]
      exact ⟨_,_,_,_,rfl,by simp,rfl,H.mono (by omega),by omega,dK,z5,B,kp,by simp +decide only [sG,q2],by simp +decide only [sG,q3]⟩)
    (by
      rintro i e n' G hi ⟨H,p1,⟨dK,z5,B⟩,kp,q1,q2,q3,q5⟩
      have z0:getO G n = (Ob.row 6 [.agg [.int .i64 (t).form,.int .i64 (t).n,.bool (t).hid,.str (t).name,slD 2 encL (t).levels,slD 6 encT (t).kids]]):=by rw [kp n (by omega) (by omega)]; exact b0
      have c1:=ih t.kids.el[i] (List.getElem_mem hi)
      have eW:encT t.kids.el[i] = (D.agg [.int .i64 (t.kids.el[i]).form,.int .i64 (t.kids.el[i]).n,.bool (t.kids.el[i]).hid,.str (t.kids.el[i]).name,slD 2 encL (t.kids.el[i]).levels,slD 6 encT (t.kids.el[i]).kids]):=encT_eq _
      rw [encT_eq (rcl t.kids.el[i])] at c1
      obtain ⟨D',K',A⟩:=app_bldx (b:=88) B H (by omega) p1 (fun m x=>low_flat (flatT x)) [rcl t.kids.el[i]] (by simp; omega)
      have a1:=fun m hm => (A m hm).1
      simp only [List.map_cons,List.map_nil,encT_eq (rcl t.kids.el[i])] at a1
      have hbo:=B.okD
      have hon:∀ m,n'≤m→one (D' m)=true:=fun m hm => (A m hm).2.1.one
      have z5':∀ m,n'≤m→getO (K' m) (n+5) = .row 6 [.agg [.int .i64 f,.int .i64 a,.bool b,.str c,dL,dK]]:=fun m hm=>by rw [(A m hm).2.2.2.1 (n+5) (by omega)]; exact z5
      have hG:∀ m,n'≤m→Gd m G:=fun m hm=>H.good' hm
      have hky:∀ m,n'≤m→keysFrom m G=[]:=fun m hm=>keys_gd (hG m hm)
      unfold l30_1
      simp (disch:=first|assumption|omega|(simp (disch:=first|assumption|omega) only [sB,reduceAdd,reduceLT,reduceLeDiff,reduceEqDiff,reduceMul,↓reduceIte,hG,gd_nil,hi,hon];done)|fail) only [sA,↓reduceIte,reduceLT,reduceEqDiff,reduceAdd,reduceLeDiff,q1,q2,q3,q5,z0,z5,z5',eW,c1,hbo,a1,hky,hG,gd_nil,hi,hon]
      obtain ⟨_,B2,H2,gK,_⟩:=A (n'+9895604649989) (by omega)
      refine ⟨_,_,_,_,rfl,.inl ⟨rfl,(H2.set (r:=n+5) (by omega) (fun k hk=>lowO_one (low_agg6 (hdL k (by omega)) (B2.lowF (H2.good k (by omega)) 18)))).mono (by omega),by omega,⟨_,getO_set1 (z5' _ (by omega)),?_⟩,fun q hq hne=>?_,by simp +decide only [sG,q1],by simp +decide only [sG,q2],by simp +decide only [sG,q3],by simp +decide only [sG]⟩⟩
      · rw [← List.take_append_getElem hi,List.map_append]
        exact B2.set (z5' _ (by omega)) (by omega)
      · rw [getO_setO _ _ _ _ (by rw [z5' _ (by omega)]; simp),if_neg hne,gK q hq]
        exact kp q hq hne)
    ⟨H,Nat.le_refl _,⟨.nils,b5,.inl ⟨by simp,rfl⟩⟩,fun _ _ _=>rfl,g1,g2,g3,g5⟩
  exact ⟨ez,nz,G,dK,rfl,k1,k2,k3,k4,k5,k6,k7⟩
end Go.Proofs.Ytdijijblccmfbaa

/- Rows whose elements hold rows that are being made themselves: levels,with their variables. No condition but sizes. -/
namespace Go.Proofs.Ytdijijblccmfbaa
open Go
open Nat (reduceAdd reduceLT reduceLeDiff reduceEqDiff reduceMul)

theorem Bld.keep {α:Type} {enc:α→D} {k n0:Nat} {l:List α} {h h':Hps} {d:D} (B:Bld k enc n0 l h d) (K:∀ r,d = .ms k r 0 l.length false→getO h' r=getO h r):Bld k enc n0 l h' d:=by
  rcases B with h1 | ⟨r,h1,h2,h3,h4⟩
  · exact .inl h1
  · exact .inr ⟨r,h1,h2,h3,by rw [K r h3]; exact h4⟩
theorem Bld.below {α:Type} {enc:α→D} {k n0 n' m:Nat} {l:List α} {h:Hps} {d:D} (B:Bld k enc n0 l h d) (hg:GoodAt n' h) (hm:n'≤m) (f:Nat):hasR m (f+1) d=false:=by
  rcases B with ⟨_,rfl⟩ | ⟨r,_,_,rfl,q4⟩
  · rfl
  · have:=getO_low hg (show getO h r ≠ .none by rw [q4]; exact fun h=>by cases h)
    exact ble_f (by omega)
def El (n0:Nat) (G:Hps) (q:Nat) (x:SLev) (d:D):Prop:=∃ dv,d = .agg [.int .i64 x.n,dv]∧Bld 2 encV n0 x.vs.el G dv∧∀ r,dv = .ms 2 r 0 x.vs.el.length false→r≠q
def NB (n0:Nat) (xs:List SLev) (G:Hps) (dd:D):Prop := (xs=[]∧dd = .nils)∨∃ q ds,n0≤q∧xs≠[]∧dd = .ms 2 q 0 xs.length false∧getO G q = .row 2 ds∧All2 (El n0 G q) xs ds
theorem All2.snoc {α β:Type} {R:α→β→Prop} {l:List α} {m:List β} {a:α} {b:β} (h:All2 R l m) (hab:R a b):All2 R (l++[a]) (m++[b]):=by
  induction h with
  | nil=>exact .cons hab .nil
  | cons h1 _ ih=>exact .cons h1 ih
theorem All2.weak {α β:Type} {R S:α→β→Prop} {l:List α} {m:List β} (h:All2 R l m) (hRS:∀ a b,R a b→S a b):All2 S l m:=by
  induction h with
  | nil=>exact .nil
  | cons h1 _ ih=>exact .cons (hRS _ _ h1) ih
theorem All2.low {n0 n' q m:Nat} {G:Hps} {xs:List SLev} {ds:List D} (h:All2 (El n0 G q) xs ds) (hg:GoodAt n' G) (hm:n'≤m):∀ d,d∈ds→low m d:=by
  induction h with
  | nil=>intro d hd; cases hd
  | cons h1 _ ih =>
    intro d hd
    rcases List.mem_cons.1 hd with rfl | hd
    · obtain ⟨dv,rfl,B,_⟩:=h1
      refine low_agg (fun z hz=>?_)
      rcases List.mem_cons.1 hz with rfl | hz
      · rfl
      · rw [List.mem_singleton.1 hz]; exact B.below hg hm 18
    · exact ih d hd
theorem NB.keep {n0 n':Nat} {xs:List SLev} {G G':Hps} {dd:D} (B:NB n0 xs G dd) (hg:GoodAt n' G) (K:∀ r,n0≤r→r < n'→getO G' r=getO G r):NB n0 xs G' dd:=by
  rcases B with h1 | ⟨q,ds,h1,h2,h3,h4,h5⟩
  · exact .inl h1
  · have hq:=getO_low hg (show getO G q ≠ .none by rw [h4]; exact fun h=>by cases h)
    refine .inr ⟨q,ds,h1,h2,h3,by rw [K q h1 hq]; exact h4,h5.weak (fun x d hx=>?_)⟩
    obtain ⟨dv,e,B,o⟩:=hx
    refine ⟨dv,e,?_,o⟩
    rcases B with b1 | ⟨r,b1,b2,b3,b4⟩
    · exact .inl b1
    · exact .inr ⟨r,b1,b2,b3,by rw [K r b2 (getO_low hg (by rw [b4]; exact fun h=>by cases h))]; exact b4⟩
theorem NB.wide {n0 n1:Nat} {xs:List SLev} {G:Hps} {dd:D} (B:NB n0 xs G dd) (hn:n1≤n0):NB n1 xs G dd:=by
  rcases B with h1 | ⟨q,ds,h1,h2,h3,h4,h5⟩
  · exact .inl h1
  · exact .inr ⟨q,ds,by omega,h2,h3,h4,h5.weak (fun x d ⟨dv,e,B,o⟩=>⟨dv,e,B.wide hn,o⟩)⟩
theorem NB.below {n0 n' m:Nat} {xs:List SLev} {G:Hps} {dd:D} (B:NB n0 xs G dd) (hg:GoodAt n' G) (hm:n'≤m):hasR m 19 dd=false:=by
  rcases B with ⟨_,rfl⟩ | ⟨q,ds,h1,h2,rfl,h4,h5⟩
  · rfl
  · have:=getO_low hg (show getO G q ≠ .none by rw [h4]; exact fun h=>by cases h)
    exact ble_f (by omega)
theorem nb_app {nb n0 n' m' m:Nat} {hb G G':Hps} {xs:List SLev} {x:SLev} {dd dv:D} (B:NB n0 xs G dd) (hg:GoodAt n' G) (hGG:∀ r,r < n'→getO G' r=getO G r) (H':Hp nb hb m' G') (hv:Bld 2 encV n0 x.vs.el G' dv)
    (hvr:∀ r,dv = .ms 2 r 0 x.vs.el.length false→n'≤r) (hm:m'≤m) (hnm:n'≤m) (h0:nb≤n0) (h1:n0≤m') (hs : (xs.length+1)*32≤140737488355328) :
    ∃ dd' K,appD m G' 2 32 dd (.ok 2 [.agg [.int .i64 x.n,dv]]) = .ok dd' m K∧NB n0 (xs++[x]) K dd'∧Hp nb hb (m+1) K∧∀ r,r < n0→getO K r=getO G' r:=by
  have lowd:∀ k,m'≤k→low k (.agg [.int .i64 x.n,dv]):=fun k hk=>low_agg (fun z hz=>by
    rcases List.mem_cons.1 hz with rfl | hz
    · rfl
    · rw [List.mem_singleton.1 hz]; exact hv.below (H'.good m' (Nat.le_refl _)) hk 18)
  have dvlt:∀ r,dv = .ms 2 r 0 x.vs.el.length false→r < m':=fun r e=>by
    rcases hv with ⟨_,rfl⟩ | ⟨r',_,_,e',g⟩
    · cases e
    · rw [e'] at e
      injection e with _ e _ _ _
      rw [← e]
      exact getO_low (H'.good m' (Nat.le_refl _)) (by rw [g]; exact fun h=>by cases h)
  rcases B with ⟨rfl,rfl⟩ | ⟨q,ds,b1,b2,rfl,b4,b5⟩
  · refine ⟨.ms 2 m 0 1 false,(m,.row 2 [.agg [.int .i64 x.n,dv]])::G',?_,?_,?_,?_⟩
    · exact appD_nils (n:=m) (h:=G') (b:=32) (q:=2) (x := .agg [.int .i64 x.n,dv]) (xt:=[]) (by simp)
    · refine .inr ⟨m,[.agg [.int .i64 x.n,dv]],by omega,by simp,rfl,getO_hd,.cons ⟨dv,rfl,hv.cons (H'.good m' (Nat.le_refl _)) hm,fun r e=>by have:=dvlt r e; omega⟩ .nil⟩
    · exact H'.cons hm (by omega) (fun k hk=>lowO_one (lowd k (by omega)))
    · intro r hr; rw [getO_tl (by omega)]
  · have hq:=getO_low hg (show getO G q ≠ .none by rw [b4]; exact fun h=>by cases h)
    have hlen:=b5.len
    have gq:getO G' q = .row 2 ds:=by rw [hGG q hq]; exact b4
    refine ⟨.ms 2 m 0 (xs.length+1) false,(m,.row 2 (ds++[.agg [.int .i64 x.n,dv]]))::delO G' q,?_,?_,?_,?_⟩
    · have:=appD_ms (n:=m) (h:=G') (b:=32) (q:=2) (r:=q) (m:=xs.length) (es:=ds) (xs:=[.agg [.int .i64 x.n,dv]]) (x := .agg [.int .i64 x.n,dv]) (xt:=[]) rfl gq hlen (by show (ds.length+1)*32≤_; rw [← hlen]; exact hs)
      rw [← hlen] at this
      exact this
    · refine .inr ⟨m,_,by omega,by simp,by rw [List.length_append]; rfl,getO_hd,(b5.weak (fun y d hy=>?_)).snoc ⟨dv,rfl,hv.keep (fun r e=>?_),fun r e=>by have:=dvlt r e; omega⟩⟩
      · obtain ⟨dw,e,B,o⟩:=hy
        have dlt:∀ r,dw = .ms 2 r 0 y.vs.el.length false→r < n':=fun r e=>by
          rcases B with ⟨_,rfl⟩ | ⟨r',_,_,e',g⟩
          · cases e
          · rw [e'] at e
            injection e with _ e _ _ _
            rw [← e]
            exact getO_low hg (by rw [g]; exact fun h=>by cases h)
        exact ⟨dw,e,B.keep (fun r e=>by have:=dlt r e; rw [getO_tl (by omega),getO_delO,if_neg (o r e),hGG r this]),fun r e=>by have:=dlt r e; omega⟩
      · have a1:=hvr r e
        have a2:=dvlt r e
        rw [getO_tl (by omega),getO_delO,if_neg (by omega)]
    · refine (H'.del (by omega)).cons hm (by omega) (fun k hk=>lowO_row (fun d hd=>?_))
      rcases List.mem_append.1 hd with hd | hd
      · exact b5.low hg (show n'≤k by omega) d hd
      · rw [List.mem_singleton.1 hd]; exact lowd k (by omega)
    · intro r hr
      rw [getO_tl (by omega),getO_delO,if_neg (by omega)]
theorem Fz.rowL {c k n0 r:Nat} {h:Hps} {ds ds':List D} (hr:n0≤r) (hg:getO h r = .row k ds) (F:FzL c n0 h ds ds') (ho:∀ d,d∈ds'→okE k d=true):Fz (c+1) n0 h (.ms k r 0 ds.length false) (.sl k ds' [] false):=by
  have key:∀ f,c+1≤f→∃ g,f=g+1∧c≤g:=fun f hf=>⟨f - 1,by omega,by omega⟩
  refine ⟨fun f hf=>?_,fun f hf=>?_,fun f hf=>?_,fun f hf=>?_⟩ <;> obtain ⟨g,rfl,hcg⟩:=key f hf
  · show Bool.rec (motive:=fun _=>D) (frzO (Ytdijijblccmfbaa.frz h n0 g) k 0 ds.length false (getO h r)) (.ms k r 0 ds.length false) (Nat.blt r n0)=_
    rw [blt_iff,decide_eq_false (by omega),hg]
    show Bool.rec (motive:=fun _=>D) .junk (frzS k (mapL (Ytdijijblccmfbaa.frz h n0 g) (takeL ds.length (dropL 0 ds))) (dropL (0+ds.length) ds) false) (Bool.and (Nat.beq k k) (Nat.ble (0+ds.length) (lenL ds)))=_
    rw [Nat.beq_refl,lenL_eq,Nat.zero_add,ble_iff,decide_eq_true (Nat.le_refl _),takeL_eq,dropL_eq,dropL_eq,List.drop_zero,List.take_of_length_le (Nat.le_refl _),(F.list g hcg).1,List.drop_of_length_le (Nat.le_refl _)]
    show frzS k ds' [] false=_
    unfold frzS
    rw [spareK_nil]
    have h2:allL (okE k) ds'=true:=by rw [allL_eq,List.all_eq_true]; exact ho
    rw [h2]
  · rfl
  · rfl
  · rfl
theorem NB.fz {n0:Nat} {G:Hps} {xs:List SLev} {dd:D} (B:NB n0 xs G dd):Fz 5 n0 G dd (slD 2 encL (Sl.app (xs.map rclL))):=by
  rcases B with ⟨rfl,rfl⟩ | ⟨q,ds,h1,h2,rfl,h4,h5⟩
  · exact (Fz.of1 rfl).mono (by omega)
  · have e:slD 2 encL (Sl.app (xs.map rclL)) = .sl 2 ((xs.map rclL).map encL) [] false:=by
      cases xs with
      | nil=>exact absurd rfl h2
      | cons x t=>rfl
    rw [e,h5.len]
    refine Fz.rowL h1 h4 ?_ (fun d hd=>?_)
    · clear h2 h4 e
      induction h5 with
      | nil=>exact .nil
      | cons h1 _ ih =>
        obtain ⟨dv,rfl,B,_⟩:=h1
        exact .cons (Fz.agg (.cons ((Fz.of1 rfl).mono (by omega)) (.cons (Fz.bld elemV B) .nil))) ih
    · obtain ⟨x,_,rfl⟩:=List.mem_map.1 hd
      exact elemL.ok x
end Go.Proofs.Ytdijijblccmfbaa

/- The reference's Clean of a term: its levels. No condition but sizes. -/
namespace Go.Proofs.Ytdijijblccmfbaa
open Go
open Nat (reduceAdd reduceLT reduceLeDiff reduceEqDiff reduceMul)

theorem app_none {m:Nat} {g:Hps}:appD m g 2 16 .nils (.ok 2 []) = .ok .nils m g:=eqOf rfl
theorem bsl_ms {m q l:Nat} {g:Hps} {a:Int}:bslD m g 2 [.agg [.int .i64 a,.ms 2 q 0 l false]] = .ok (.ms 2 m 0 1 true) m ((m,.row 2 [.agg [.int .i64 a,.ms 2 q 0 l false]])::g):=eqOf rfl
theorem view_one {q:Nat} {g:Hps} {d:D} (hg:getO g q = .row 2 [d]):view 2 g (.ms 2 q 0 1 true) = .ok 2 [d]:=by
  show viewR 0 1 (getO g q)=_
  rw [hg]; rfl
theorem keysC {m q:Nat} {o:Ob} {h:Hps} (hq:m≤q):keysFrom m ((q,o)::h)=q::keysFrom m h:=by
  show Bool.rec (motive:=fun _=>List Nat) (keysFrom m h) (q::keysFrom m h) (Nat.ble m q)=_
  rw [ble_iff,decide_eq_true hq]
theorem app_vars {m:Nat} {g:Hps} {v:LV} {vt:List LV} (hs : (vt.length+1)*16≤140737488355328):appD m g 2 16 .nils (.ok 2 (encV v::vt.map encV)) = .ok (.ms 2 m 0 (vt.length+1) false) m ((m,.row 2 (encV v::vt.map encV))::g):=by
  have:=appD_nils (n:=m) (h:=g) (b:=16) (q:=2) (x:=encV v) (xt:=vt.map encV) (by rw [List.length_map]; exact hs)
  rw [List.length_map] at this
  exact this
set_option maxHeartbeats 8000000 in
theorem clLevs (n:Nat) (h:Hps) (t:Tm) (hk:t.levels.el.length≤1000000000) (hv:∀ x,x∈t.levels.el→x.vs.el.length≤1000000000)
    {f a:Int} {b:Bool} {c:List Nat} {e:Tr} {n0:Nat} {h':Hps} {r:Re} (hr:LX (cFk kL Try.prog) (.loop l30_0) e n0 h'=r) (H:Hp n h n0 h') (p0:n+6≤n0) (b0:getO h' n = (Ob.row 6 [.agg [.int .i64 (t).form,.int .i64 (t).n,.bool (t).hid,.str (t).name,slD 2 encL (t).levels,slD 6 encT (t).kids]])) (b1:getO h' (n+1) = (Ob.row 6 [.agg [.int .i64 0,.int .i64 0,.bool false,.str [],.nils,.nils]])) (b5:getO h' (n+5) = .row 6 [.agg [.int .i64 f,.int .i64 a,.bool b,.str c,.nils,.nils]])
    (g1:get (po 1) e = .ptr n 0 0) (g2:get (po 2) e = .ptr (n+1) 0 0) (g3:get (po 3) e = .ptr (n+5) 0 0) (g4:get (po 4) e = .int .i64 0) :
    ∃ e' n' h'' dL,r = .ok (.exit 1) e' n' h''∧Hp n h n' h''∧n+6≤n'∧getO h'' (n+5) = .row 6 [.agg [.int .i64 f,.int .i64 a,.bool b,.str c,dL,.nils]]∧NB (n+6) t.levels.el h'' dL∧getO h'' n = (Ob.row 6 [.agg [.int .i64 (t).form,.int .i64 (t).n,.bool (t).hid,.str (t).name,slD 2 encL (t).levels,slD 6 encT (t).kids]])∧getO h'' (n+1) = (Ob.row 6 [.agg [.int .i64 0,.int .i64 0,.bool false,.str [],.nils,.nils]])∧get (po 1) e' = .ptr n 0 0∧get (po 2) e' = .ptr (n+1) 0 0∧get (po 3) e' = .ptr (n+5) 0 0:=by
  obtain ⟨x,ez,nz,G,rfl,rfl,k1,k2,dL,k3,k4,k5,k6,k7,k8,k9⟩:=loop_up hr t.levels.el.length
    (fun i e n' G=>Hp n h n' G∧n+6≤n' ∧ (∃ dL,getO G (n+5) = .row 6 [.agg [.int .i64 f,.int .i64 a,.bool b,.str c,dL,.nils]]∧NB (n+6) (t.levels.el.take i) G dL)∧getO G n = (Ob.row 6 [.agg [.int .i64 (t).form,.int .i64 (t).n,.bool (t).hid,.str (t).name,slD 2 encL (t).levels,slD 6 encT (t).kids]])∧getO G (n+1) = (Ob.row 6 [.agg [.int .i64 0,.int .i64 0,.bool false,.str [],.nils,.nils]])∧get (po 1) e = .ptr n 0 0∧get (po 2) e = .ptr (n+1) 0 0∧get (po 3) e = .ptr (n+5) 0 0∧get (po 4) e = .int .i64 (i:Nat))
    (fun x e n' G=>x = .exit 1∧Hp n h n' G∧n+6≤n'∧∃ dL,getO G (n+5) = .row 6 [.agg [.int .i64 f,.int .i64 a,.bool b,.str c,dL,.nils]]∧NB (n+6) t.levels.el G dL∧getO G n = (Ob.row 6 [.agg [.int .i64 (t).form,.int .i64 (t).n,.bool (t).hid,.str (t).name,slD 2 encL (t).levels,slD 6 encT (t).kids]])∧getO G (n+1) = (Ob.row 6 [.agg [.int .i64 0,.int .i64 0,.bool false,.str [],.nils,.nils]])∧get (po 1) e = .ptr n 0 0∧get (po 2) e = .ptr (n+1) 0 0∧get (po 3) e = .ptr (n+5) 0 0)
    (by
      rintro e n' G ⟨H,p1,⟨dL,z5,B⟩,z0,z1,q1,q2,q3,q4⟩
      rw [List.take_length] at B
      unfold l30_0
      simp (disch:=first|assumption|omega|(simp (disch:=first|assumption|omega) only [sB,reduceAdd,reduceLT,reduceLeDiff,reduceEqDiff,reduceMul,↓reduceIte];done)|fail) only [sA,↓reduceIte,reduceLT,reduceEqDiff,reduceAdd,reduceLeDiff,q1,q4,z0]
      exact ⟨_,_,_,_,rfl,by simp,rfl,H.mono (by omega),by omega,dL,z5,B,z0,z1,by simp +decide only [sG,q1],by simp +decide only [sG,q2],by simp +decide only [sG,q3]⟩)
    (by
      rintro i e n' G hi ⟨H,p1,⟨dL,z5,B⟩,z0,z1,q1,q2,q3,q4⟩
      have hxv:=hv _ (List.getElem_mem hi)
      have hko:∀ m,n'≤m→keysFrom m G=[]:=fun m hm=>keys_low (H.good m hm)
      have hdo:∀ m g,okD m g dL = .ok dL m g:=fun m g=>by
        rcases B with ⟨_,rfl⟩ | ⟨_,_,_,_,rfl,_⟩ <;> rfl
      cases hvs:t.levels.el[i].vs.el with
      | nil =>
        obtain ⟨dd',K,a1,B2,H2,k0⟩:=nb_app (m:=n'+18691697672197) (m':=n') (x:=t.levels.el[i]) (dv := .nils) B (H.good n' (Nat.le_refl _)) (fun _ _=>rfl) H (.inl ⟨hvs,rfl⟩) (fun r e=>by cases e) (by omega) (by omega) (by omega) p1 (by rw [List.length_take]; omega)
        have hon:one dd'=true:=by
          rcases B2 with ⟨_,rfl⟩ | ⟨_,_,_,_,rfl,_⟩ <;> rfl
        have z5':getO K (n+5) = .row 6 [.agg [.int .i64 f,.int .i64 a,.bool b,.str c,dL,.nils]]:=by rw [k0 (n+5) (by omega)]; exact z5
        unfold l30_0
        simp (disch:=first|assumption|omega|(simp (disch:=first|assumption|omega) only [sB,reduceAdd,reduceLT,reduceLeDiff,reduceEqDiff,reduceMul,↓reduceIte,hi,hon];done)|fail) only [sA,↓reduceIte,reduceLT,reduceEqDiff,reduceAdd,reduceLeDiff,q1,q2,q3,q4,z0,z5,encL,hvs,List.map_nil,app_none,hdo,a1,z5',hko,keysC,hi,hon]
        refine ⟨_,_,_,_,rfl,.inl ⟨rfl,(H2.set (r:=n+5) (by omega) (fun k hk=>lowO_one (low_agg6 (B2.below (H2.good _ (Nat.le_refl _)) hk) rfl))).mono (by omega),by omega,⟨dd',getO_set1 z5',?_⟩,getO_set2 z5' (by rw [k0 n (by omega)]; exact z0) (by omega),getO_set2 z5' (by rw [k0 (n+1) (by omega)]; exact z1) (by omega),by simp +decide only [sG,q1],by simp +decide only [sG,q2],by simp +decide only [sG,q3],by simp +decide only [sG]⟩⟩
        rw [← List.take_append_getElem hi]
        exact B2.keep (H2.good _ (Nat.le_refl _)) (fun r h1 h2=>by rw [getO_setO _ _ _ _ (by rw [z5']; simp),if_neg (by omega)])
      | cons v vt =>
        rw [hvs,List.length_cons] at hxv
        have HG:Hp n h (n'+17592186044422) ((n'+17592186044421,.row 2 [.agg [.int .i64 t.levels.el[i].n,.ms 2 (n'+15393162788869) 0 (vt.length+1) false]]) :: (n'+15393162788869,.row 2 (encV v::vt.map encV))::G) :=
          (H.cons (r:=n'+15393162788869) (m:=n'+15393162788870) (by omega) (by omega) (fun k _=>lowO_map (l:=v::vt) (fun x=>lowV k x))).cons (r:=n'+17592186044421) (m:=n'+17592186044422) (by omega) (by omega) (fun k hk=>lowO_one (low_agg (fun z hz=>by
            rcases List.mem_cons.1 hz with rfl | hz
            · rfl
            · rw [List.mem_singleton.1 hz]; exact ble_f (by omega))))
        have hBv:Bld 2 encV (n+6) t.levels.el[i].vs.el ((n'+17592186044421,.row 2 [.agg [.int .i64 t.levels.el[i].n,.ms 2 (n'+15393162788869) 0 (vt.length+1) false]]) :: (n'+15393162788869,.row 2 (encV v::vt.map encV))::G) (.ms 2 (n'+15393162788869) 0 (vt.length+1) false):=by
          rw [hvs]
          exact .inr ⟨n'+15393162788869,by simp,by omega,rfl,by rw [getO_tl (by omega),getO_hd]; rfl⟩
        obtain ⟨dd',K,a1,B2,H2,k0⟩:=nb_app (m:=n'+18691697672197) (x:=t.levels.el[i]) B (H.good n' (Nat.le_refl _)) (fun r hr=>by rw [getO_tl (by omega),getO_tl (by omega)]) HG hBv (fun r e=>by injection e with _ e _ _ _; omega) (by omega) (by omega) (by omega) (by omega) (by rw [List.length_take]; omega)
        have hon:one dd'=true:=by
          rcases B2 with ⟨_,rfl⟩ | ⟨_,_,_,_,rfl,_⟩ <;> rfl
        have z5':getO K (n+5) = .row 6 [.agg [.int .i64 f,.int .i64 a,.bool b,.str c,dL,.nils]]:=by rw [k0 (n+5) (by omega),getO_tl (by omega),getO_tl (by omega)]; exact z5
        have hview:view 2 ((n'+17592186044421,.row 2 [.agg [.int .i64 t.levels.el[i].n,.ms 2 (n'+15393162788869) 0 (vt.length+1) false]]) :: (n'+15393162788869,.row 2 (encV v::vt.map encV))::G) (.ms 2 (n'+17592186044421) 0 1 true) = .ok 2 [.agg [.int .i64 t.levels.el[i].n,.ms 2 (n'+15393162788869) 0 (vt.length+1) false]]:=view_one getO_hd
        unfold l30_0
        simp (disch:=first|assumption|omega|(simp (disch:=first|assumption|omega) only [sB,reduceAdd,reduceLT,reduceLeDiff,reduceEqDiff,reduceMul,↓reduceIte,hi,hon];done)|fail) only [sA,↓reduceIte,reduceLT,reduceEqDiff,reduceAdd,reduceLeDiff,q1,q2,q3,q4,z0,z5,encL,hvs,List.map_cons,app_vars,bsl_ms,hview,hdo,a1,z5',hko,keysC,hi,hon]
        refine ⟨_,_,_,_,rfl,.inl ⟨rfl,(H2.set (r:=n+5) (by omega) (fun k hk=>lowO_one (low_agg6 (B2.below (H2.good _ (Nat.le_refl _)) hk) rfl))).mono (by omega),by omega,⟨dd',getO_set1 z5',?_⟩,getO_set2 z5' (by rw [k0 n (by omega),getO_tl (by omega),getO_tl (by omega)]; exact z0) (by omega),getO_set2 z5' (by rw [k0 (n+1) (by omega),getO_tl (by omega),getO_tl (by omega)]; exact z1) (by omega),by simp +decide only [sG,q1],by simp +decide only [sG,q2],by simp +decide only [sG,q3],by simp +decide only [sG]⟩⟩
        rw [← List.take_append_getElem hi]
        exact B2.keep (H2.good _ (Nat.le_refl _)) (fun r h1 h2=>by rw [getO_setO _ _ _ _ (by rw [z5']; simp),if_neg (by omega)]))
    ⟨H,p0,⟨.nils,b5,.inl ⟨by simp,rfl⟩⟩,b0,b1,g1,g2,g3,g4⟩
  exact ⟨ez,nz,G,dL,rfl,k1,k2,k3,k4,k5,k6,k7,k8,k9⟩
end Go.Proofs.Ytdijijblccmfbaa

/- The reference's Clean of a term,whole. No condition but sizes. -/
namespace Go.Proofs.Ytdijijblccmfbaa
open Go
open Nat (reduceAdd reduceLT reduceLeDiff reduceEqDiff reduceMul)

theorem clFin {n n0 n' m:Nat} {h G:Hps} {f a:Int} {b:Bool} {c:List Nat} {dL dK:D} {xs:List SLev} {ks:List Tm} (H:Hp n h n' G) (p0:n+6≤n0) (p1:n0≤n') (hm:n'≤m) (z1:getO G (n+1) = (Ob.row 6 [.agg [.int .i64 0,.int .i64 0,.bool false,.str [],.nils,.nils]])) (B:NB (n+6) xs G dL) (BK:Bld 6 encT n0 ks G dK) :
    finishD n m (setO G (n+1) (.row 6 [.agg [.int .i64 f,.int .i64 a,.bool b,.str c,dL,dK]])) (.agg [.int .i64 f,.int .i64 a,.bool b,.str c,dL,dK]) = .ok (.agg [.int .i64 f,.int .i64 a,.bool b,.str c,slD 2 encL (Sl.app (xs.map rclL)),slD 6 encT (Sl.app ks)]) n h:=by
  have hg:=H.good n' (Nat.le_refl _)
  have HH:Hp n h m (setO G (n+1) (.row 6 [.agg [.int .i64 f,.int .i64 a,.bool b,.str c,dL,dK]])) := (H.set (r:=n+1) (by omega) (fun k hk=>lowO_one (low_agg6 (B.below hg hk) (BK.below hg hk 18)))).mono hm
  have B2:=B.keep (G':=setO G (n+1) (.row 6 [.agg [.int .i64 f,.int .i64 a,.bool b,.str c,dL,dK]])) hg (fun r h1 h2=>by rw [getO_setO _ _ _ _ (by rw [z1]; simp),if_neg (by omega)])
  have BK2 := (BK.set (x := .row 6 [.agg [.int .i64 f,.int .i64 a,.bool b,.str c,dL,dK]]) z1 (by omega)).wide (show n≤n0 by omega)
  have B3:Fz 5 n (setO G (n+1) (.row 6 [.agg [.int .i64 f,.int .i64 a,.bool b,.str c,dL,dK]])) dL (slD 2 encL (Sl.app (xs.map rclL))):=NB.fz (B2.wide (show n≤n+6 by omega))
  have F:=finishD_fz (n:=m) (Fz.agg (.cons ((Fz.of1 (d := .int .i64 f) rfl).mono (show 1≤5 by omega)) (.cons ((Fz.of1 (d := .int .i64 a) rfl).mono (show 1≤5 by omega)) (.cons ((Fz.of1 (d := .bool b) rfl).mono (show 1≤5 by omega)) (.cons ((Fz.of1 (d := .str c) rfl).mono (show 1≤5 by omega)) (.cons B3 (.cons ((Fz.bld elemT BK2).mono (show 3≤5 by omega)) .nil))))))) (by omega) HH.leak
  rw [F,HH.drop]
set_option maxHeartbeats 16000000 in
theorem rClean:∀ t:Tm,sizeT1 t.abs=true→∀ (n:Nat) (h:Hps),Gd n h→callFn (LX (cFk kL Try.prog)) n h [(D.agg [.int .i64 (t).form,.int .i64 (t).n,.bool (t).hid,.str (t).name,slD 2 encL (t).levels,slD 6 encT (t).kids])] (cFk kL Try.prog 30) = .ok (encT (rcl t)) n h:=by
  refine Tm.ind ?_
  intro t ih0 hs n h hg
  obtain ⟨⟨hll,hkl⟩,hlv,hks⟩:=size1_tm hs
  have hgn:=hg n (Nat.le_refl _)
  have ih:∀ k,k∈t.kids.el→∀ n h,Gd n h→callFn (LX (cFk kL Try.prog)) n h [(D.agg [.int .i64 (k).form,.int .i64 (k).n,.bool (k).hid,.str (k).name,slD 2 encL (k).levels,slD 6 encT (k).kids])] (cFk kL Try.prog 30) = .ok (encT (rcl k)) n h:=fun k hk n h hg=>ih0 k hk (hks k hk) n h hg
  have e:encT (rcl t) = .agg [.int .i64 t.form,.int .i64 (if t.form=1∨t.form=11 then t.n else 0),.bool (if t.form=3∨t.form=4∨t.form=5 then t.hid else false),.str (if t.form=10 then t.name else []),slD 2 encL (if t.form=2∨t.form=10 then Sl.app (t.levels.el.map rclL) else Sl.app []),slD 6 encT (Sl.app (t.kids.el.map rcl))]:=by rw [rcl_eq,encT_eq]; rfl
  rw [e]
  have HX:∀ X,flat X=true→Hp n h (n+6) ((n+5,.row 6 [X]) :: (n+1,(Ob.row 6 [.agg [.int .i64 0,.int .i64 0,.bool false,.str [],.nils,.nils]])) :: (n,(Ob.row 6 [.agg [.int .i64 (t).form,.int .i64 (t).n,.bool (t).hid,.str (t).name,slD 2 encL (t).levels,slD 6 encT (t).kids]]))::h):=fun X hX => (((Hp.start hg).box (r:=n) (m:=n+1) (Nat.le_refl _) (by omega) (flatTA t)).box (r:=n+1) (m:=n+2) (k:=6) (d := (D.agg [.int .i64 0,.int .i64 0,.bool false,.str [],.nils,.nils])) (by omega) (by omega) rfl).box (r:=n+5) (m:=n+6) (by omega) (by omega) hX
  have fin:∀ {f a:Int} {b:Bool} {c:List Nat} {dL:D} {xs:List SLev} {e:Tr} {n0:Nat} {h':Hps} {R:Re},LX (cFk kL Try.prog) (.loop l30_1) e n0 h'=R→Hp n h n0 h'→n+6≤n0→getO h' n = (Ob.row 6 [.agg [.int .i64 (t).form,.int .i64 (t).n,.bool (t).hid,.str (t).name,slD 2 encL (t).levels,slD 6 encT (t).kids]])→getO h' (n+1) = (Ob.row 6 [.agg [.int .i64 0,.int .i64 0,.bool false,.str [],.nils,.nils]])→getO h' (n+5) = .row 6 [.agg [.int .i64 f,.int .i64 a,.bool b,.str c,dL,.nils]]→NB (n+6) xs h' dL →
      get (po 1) e = .ptr n 0 0→get (po 2) e = .ptr (n+1) 0 0→get (po 3) e = .ptr (n+5) 0 0→get (po 5) e = .int .i64 0 →
      finish n [RV.cell (po 2) true 6] (seqR (LX (cFk kL Try.prog)) (.seq (.reg [.op (some (po 77)) none (.load true 6 (.s (po 3))),.op none none (.store true 6 (.s (po 2)) (.s (po 77)))]) .ret) (blockR 3 R)) = .ok (.agg [.int .i64 f,.int .i64 a,.bool b,.str c,slD 2 encL (Sl.app (xs.map rclL)),slD 6 encT (Sl.app (t.kids.el.map rcl))]) n h:=by
    intro f a b c dL xs e n0 h' R hr H p0 b0 b1 b5 B g1 g2 g3 g5
    have hg0:=H.good n0 (Nat.le_refl _)
    obtain ⟨ez,nz,G,dK,rfl,H2,p2,z5,BK,kp,q2,q3⟩:=clKids n h t hkl ih hr H p0 b0 b5 (fun m hm=>B.below hg0 hm) g1 g2 g3 g5
    have z1:getO G (n+1) = (Ob.row 6 [.agg [.int .i64 0,.int .i64 0,.bool false,.str [],.nils,.nils]]):=by rw [kp (n+1) (by omega) (by omega)]; exact b1
    have B2:NB (n+6) xs G dL:=B.keep hg0 (fun r h1 h2=>kp r h2 (by omega))
    have w:∀ X,getO (setO G (n+1) X) (n+1)=X:=fun X=>getO_setO_same (by rw [z1]; simp)
    simp (disch:=first|assumption|omega|(simp (disch:=first|assumption|omega) only [sB,reduceAdd,reduceLT,reduceLeDiff,reduceEqDiff,reduceMul,↓reduceIte];done)|fail) only [sA,↓reduceIte,reduceLT,reduceEqDiff,reduceAdd,reduceLeDiff,q2,q3,z5,z1,w]
    exact clFin H2 p0 p2 (by omega) z1 B2 BK
  generalize hf:t.form=f at *
  have nb0:∀ G,NB (n+6) [] G .nils:=fun G => .inl ⟨rfl,rfl⟩
  by_cases h1:f=1
  · subst h1
    rw [f30_eq]; unfold c30; rw [callFn_eq (by rfl)]
    simp (disch:=first|assumption|omega|(simp (disch:=first|assumption|omega) only [sB,reduceAdd,reduceLT,reduceLeDiff,reduceEqDiff,reduceMul,↓reduceIte];done)|fail) only [sA,↓reduceIte,reduceLT,reduceEqDiff,reduceAdd,reduceLeDiff,hf]
    generalize hr:LX (cFk kL Try.prog) (.loop l30_1) _ _ _=R
    exact fin hr ((HX _ rfl).mono (by omega)) (by omega) (by rw [getO_tl (by omega),getO_tl (by omega),getO_hd]) (by rw [getO_tl (by omega),getO_hd]) getO_hd (nb0 _) (by simp +decide only [sG]) (by simp +decide only [sG]) (by simp +decide only [sG]) (by simp +decide only [sG])
  by_cases h11:f=11
  · subst h11
    rw [f30_eq]; unfold c30; rw [callFn_eq (by rfl)]
    simp (disch:=first|assumption|omega|(simp (disch:=first|assumption|omega) only [sB,reduceAdd,reduceLT,reduceLeDiff,reduceEqDiff,reduceMul,↓reduceIte];done)|fail) only [sA,↓reduceIte,reduceLT,reduceEqDiff,reduceAdd,reduceLeDiff,hf]
    generalize hr:LX (cFk kL Try.prog) (.loop l30_1) _ _ _=R
    exact fin hr ((HX _ rfl).mono (by omega)) (by omega) (by rw [getO_tl (by omega),getO_tl (by omega),getO_hd]) (by rw [getO_tl (by omega),getO_hd]) getO_hd (nb0 _) (by simp +decide only [sG]) (by simp +decide only [sG]) (by simp +decide only [sG]) (by simp +decide only [sG])
  by_cases h3:f=3
  · subst h3
    rw [f30_eq]; unfold c30; rw [callFn_eq (by rfl)]
    simp (disch:=first|assumption|omega|(simp (disch:=first|assumption|omega) only [sB,reduceAdd,reduceLT,reduceLeDiff,reduceEqDiff,reduceMul,↓reduceIte];done)|fail) only [sA,↓reduceIte,reduceLT,reduceEqDiff,reduceAdd,reduceLeDiff,hf]
    generalize hr:LX (cFk kL Try.prog) (.loop l30_1) _ _ _=R
    exact fin hr ((HX _ rfl).mono (by omega)) (by omega) (by rw [getO_tl (by omega),getO_tl (by omega),getO_hd]) (by rw [getO_tl (by omega),getO_hd]) getO_hd (nb0 _) (by simp +decide only [sG]) (by simp +decide only [sG]) (by simp +decide only [sG]) (by simp +decide only [sG])
  by_cases h4:f=4
  · subst h4
    rw [f30_eq]; unfold c30; rw [callFn_eq (by rfl)]
    simp (disch:=first|assumption|omega|(simp (disch:=first|assumption|omega) only [sB,reduceAdd,reduceLT,reduceLeDiff,reduceEqDiff,reduceMul,↓reduceIte];done)|fail) only [sA,↓reduceIte,reduceLT,reduceEqDiff,reduceAdd,reduceLeDiff,hf]
    generalize hr:LX (cFk kL Try.prog) (.loop l30_1) _ _ _=R
    exact fin hr ((HX _ rfl).mono (by omega)) (by omega) (by rw [getO_tl (by omega),getO_tl (by omega),getO_hd]) (by rw [getO_tl (by omega),getO_hd]) getO_hd (nb0 _) (by simp +decide only [sG]) (by simp +decide only [sG]) (by simp +decide only [sG]) (by simp +decide only [sG])
  by_cases h5:f=5
  · subst h5
    rw [f30_eq]; unfold c30; rw [callFn_eq (by rfl)]
    simp (disch:=first|assumption|omega|(simp (disch:=first|assumption|omega) only [sB,reduceAdd,reduceLT,reduceLeDiff,reduceEqDiff,reduceMul,↓reduceIte];done)|fail) only [sA,↓reduceIte,reduceLT,reduceEqDiff,reduceAdd,reduceLeDiff,hf]
    generalize hr:LX (cFk kL Try.prog) (.loop l30_1) _ _ _=R
    exact fin hr ((HX _ rfl).mono (by omega)) (by omega) (by rw [getO_tl (by omega),getO_tl (by omega),getO_hd]) (by rw [getO_tl (by omega),getO_hd]) getO_hd (nb0 _) (by simp +decide only [sG]) (by simp +decide only [sG]) (by simp +decide only [sG]) (by simp +decide only [sG])
  by_cases h2:f=2
  · subst h2
    rw [f30_eq]; unfold c30; rw [callFn_eq (by rfl)]
    simp (disch:=first|assumption|omega|(simp (disch:=first|assumption|omega) only [sB,reduceAdd,reduceLT,reduceLeDiff,reduceEqDiff,reduceMul,↓reduceIte];done)|fail) only [sA,↓reduceIte,reduceLT,reduceEqDiff,reduceAdd,reduceLeDiff,hf]
    generalize hr:LX (cFk kL Try.prog) (.loop l30_0) _ _ _=R
    obtain ⟨ez,nz,G,dL,rfl,H2,p2,z5,B,z0,z1,q1,q2,q3⟩:=clLevs n h t hll hlv hr ((HX _ rfl).mono (by omega)) (by omega) (by rw [getO_tl (by omega),getO_tl (by omega),getO_hd,hf]) (by rw [getO_tl (by omega),getO_hd]) getO_hd (by simp +decide only [sG]) (by simp +decide only [sG]) (by simp +decide only [sG]) (by simp +decide only [sG])
    simp (disch:=first|assumption|omega|(simp (disch:=first|assumption|omega) only [sB,reduceAdd,reduceLT,reduceLeDiff,reduceEqDiff,reduceMul,↓reduceIte];done)|fail) only [sA,↓reduceIte,reduceLT,reduceEqDiff,reduceAdd,reduceLeDiff,q1,q2,q3]
    generalize hr:LX (cFk kL Try.prog) (.loop l30_1) _ _ _=R
    exact fin hr (H2.mono (by omega)) (by omega) (by rw [z0,hf]) z1 z5 B (by simp +decide only [sG,q1]) (by simp +decide only [sG,q2]) (by simp +decide only [sG,q3]) (by simp +decide only [sG])
  by_cases h10:f=10
  · subst h10
    rw [f30_eq]; unfold c30; rw [callFn_eq (by rfl)]
    simp (disch:=first|assumption|omega|(simp (disch:=first|assumption|omega) only [sB,reduceAdd,reduceLT,reduceLeDiff,reduceEqDiff,reduceMul,↓reduceIte];done)|fail) only [sA,↓reduceIte,reduceLT,reduceEqDiff,reduceAdd,reduceLeDiff,hf]
    generalize hr:LX (cFk kL Try.prog) (.loop l30_0) _ _ _=R
    obtain ⟨ez,nz,G,dL,rfl,H2,p2,z5,B,z0,z1,q1,q2,q3⟩:=clLevs n h t hll hlv hr ((HX _ rfl).mono (by omega)) (by omega) (by rw [getO_tl (by omega),getO_tl (by omega),getO_hd,hf]) (by rw [getO_tl (by omega),getO_hd]) getO_hd (by simp +decide only [sG]) (by simp +decide only [sG]) (by simp +decide only [sG]) (by simp +decide only [sG])
    simp (disch:=first|assumption|omega|(simp (disch:=first|assumption|omega) only [sB,reduceAdd,reduceLT,reduceLeDiff,reduceEqDiff,reduceMul,↓reduceIte];done)|fail) only [sA,↓reduceIte,reduceLT,reduceEqDiff,reduceAdd,reduceLeDiff,q1,q2,q3]
    generalize hr:LX (cFk kL Try.prog) (.loop l30_1) _ _ _=R
    exact fin hr (H2.mono (by omega)) (by omega) (by rw [z0,hf]) z1 z5 B (by simp +decide only [sG,q1]) (by simp +decide only [sG,q2]) (by simp +decide only [sG,q3]) (by simp +decide only [sG])
  rw [if_neg (by omega),if_neg (by omega),if_neg (by omega),if_neg (by omega)]
  rw [f30_eq]; unfold c30; rw [callFn_eq (by rfl)]
  simp (disch:=first|assumption|omega|(simp (disch:=first|assumption|omega) only [sB,reduceAdd,reduceLT,reduceLeDiff,reduceEqDiff,reduceMul,↓reduceIte];done)|fail) only [sA,↓reduceIte,reduceLT,reduceEqDiff,reduceAdd,reduceLeDiff,hf,h1,h2,h3,h4,h5,h10,h11]
  generalize hr:LX (cFk kL Try.prog) (.loop l30_1) _ _ _=R
  exact fin hr ((HX _ rfl).mono (by omega)) (by omega) (by rw [getO_tl (by omega),getO_tl (by omega),getO_hd]) (by rw [getO_tl (by omega),getO_hd]) getO_hd (nb0 _) (by simp +decide only [sG]) (by simp +decide only [sG]) (by simp +decide only [sG]) (by simp +decide only [sG])
theorem rcl_abs:∀ t:Tm,(rcl t).abs=cleanT t.abs:=by
  refine Tm.ind ?_
  intro t ih
  rw [rcl_eq,abs_eq t,clean_eq,abs_eq]
  show Trm.mk t.form _ _ _ ((if t.form=2∨t.form=10 then Sl.app (t.levels.el.map rclL) else Sl.app []).el.map SLev.lev) ((t.kids.el.map rcl).map Tm.abs)=_
  have e1 : (t.kids.el.map rcl).map Tm.abs = (t.kids.el.map Tm.abs).map cleanT:=by
    rw [List.map_map,List.map_map]
    exact List.map_congr_left (fun k hk=>ih k hk)
  have e2 : ((if t.form=2∨t.form=10 then Sl.app (t.levels.el.map rclL) else Sl.app []).el.map SLev.lev) = (if t.form=2∨t.form=10 then t.levels.el.map SLev.lev else []):=by
    split
    · rw [app_el,List.map_map]; rfl
    · rfl
  rw [e1,e2]
  rfl
end Go.Proofs.Ytdijijblccmfbaa
