/- Builders beside other objects that are looked at or written; maps. No condition. -/
import Derived.Test.YtpbpmpabndgeeaaA39

/- Loops in general: a measure that falls,or an index that rises,and what holds between the rounds. No condition. -/
set_option linter.unusedSimpArgs false
set_option linter.unusedVariables false
namespace Go.Proofs.Ytpbpmpabndgeeaa
open Go

section
variable {F:Nat→DFn} {b:DCode} {e:Tr} {n:Nat} {h:Hps} {r:Re}
theorem loop_at (hr:LX F (.loop b) e n h=r) (I:Nat→Tr→Nat→Hps→Prop) (Q:Ex→Tr→Nat→Hps→Prop)
    (step:∀ j e n h,I j e n h→∃ x e' n' h',LX F b e n h = .ok x e' n' h' ∧ ((x = .normal∧∃ j',j' < j∧I j' e' n' h') ∨ (x ≠ .normal∧Q x e' n' h')))
    (j:Nat) (hI:I j e n h):∃ x e' n' h',r = .ok x e' n' h'∧Q x e' n' h':=by
  subst hr
  induction j using Nat.strongRecOn generalizing e n h with
  | _ j ih =>
  obtain ⟨x,e1,n1,h1,hb,hc⟩:=step j e n h hI
  rcases hc with ⟨rfl,j',hj,hI'⟩ | ⟨hx,hq⟩
  · obtain ⟨x2,e2,n2,h2,hb2,hq⟩:=ih j' hj hI'
    exact ⟨x2,e2,n2,h2,by rw [loop_next hb,hb2],hq⟩
  · refine ⟨x,e1,n1,h1,?_,hq⟩
    rw [LX_loop,hb]
    cases x with
    | normal=>exact absurd rfl hx
    | exit i=>rfl
    | ret=>rfl
theorem loop_up (hr:LX F (.loop b) e n h=r) (m:Nat) (I:Nat→Tr→Nat→Hps→Prop) (Q:Ex→Tr→Nat→Hps→Prop)
    (last:∀ e n h,I m e n h→∃ x e' n' h',LX F b e n h = .ok x e' n' h'∧x ≠ .normal∧Q x e' n' h')
    (step:∀ i e n h,i < m→I i e n h→∃ x e' n' h',LX F b e n h = .ok x e' n' h' ∧ ((x = .normal∧I (i+1) e' n' h') ∨ (x ≠ .normal∧Q x e' n' h')))
    (hI:I 0 e n h):∃ x e' n' h',r = .ok x e' n' h'∧Q x e' n' h':=by
  refine loop_at hr (fun j e n h=>∃ i,i+j=m∧I i e n h) Q (fun j e n h hj=>?_) m ⟨0,by omega,hI⟩
  obtain ⟨i,hi,hI⟩:=hj
  by_cases hm:i < m
  · obtain ⟨x,e1,n1,h1,hb,hc⟩:=step i e n h hm hI
    refine ⟨x,e1,n1,h1,hb,?_⟩
    rcases hc with ⟨rfl,hc⟩ | hc
    · exact .inl ⟨rfl,j - 1,by omega,i+1,by omega,hc⟩
    · exact .inr hc
  · have:i=m:=by omega
    subst this
    obtain ⟨x,e1,n1,h1,hb,hx,hq⟩:=last e n h hI
    exact ⟨x,e1,n1,h1,hb,.inr ⟨hx,hq⟩⟩

theorem Hp.box {n0 m r:Nat} {h0:Hps} {k:Nat} {d:D} (H:Hp n0 h0 n h) (hr:n≤r) (hm:r < m) (hd:flat d=true):Hp n0 h0 m ((r,.row k [d])::h) :=
  H.cons hr hm (fun _ _=>lowO_one (low_flat hd))
theorem Hp.good' {n0:Nat} {h0:Hps} (H:Hp n0 h0 n h) {m:Nat} (hm:n≤m):∀ k,m≤k→GoodAt k h:=fun k hk=>H.good k (Nat.le_trans hm hk)
theorem getO_keep {r q:Nat} {o o':Ob} (hg:getO h r=o) (hn:r≠q):getO ((q,o')::h) r=o:=by rw [getO_tl (fun e=>hn e.symm)]; exact hg
theorem getO_set1 {q k:Nat} {es:List D} {x:Ob} (hg:getO h q = .row k es):getO (setO h q x) q=x:=by
  rw [getO_setO _ _ _ _ (by rw [hg]; exact fun h=>by cases h),if_pos rfl]
theorem getO_set2 {q r k:Nat} {es:List D} {x o:Ob} (hg:getO h q = .row k es) (hr:getO h r=o) (hn:r≠q):getO (setO h q x) r=o:=by
  rw [getO_setO _ _ _ _ (by rw [hg]; exact fun h=>by cases h),if_neg hn]; exact hr
theorem app_bld {α:Type} {enc:α→D} {k b n0:Nat} {h0:Hps} {l:List α} {d:D} (hB:Bld k enc n0 l h d) (H:Hp n0 h0 n h) (he:∀ m x,low m (enc x)) (xs:List α) (hs : (l.length+xs.length)*b≤140737488355328) :
    ∃ (D':Nat→D) (H':Nat→Hps),∀ m,n≤m→appD m h k b d (.ok k (xs.map enc)) = .ok (D' m) m (H' m)∧Bld k enc n0 (l++xs) (H' m) (D' m)∧Hp n0 h0 (m+1) (H' m):=by
  have hle:=H.le
  cases xs with
  | nil =>
    refine ⟨fun _=>d,fun _=>h,fun m hm=>⟨?_,by rw [List.append_nil]; exact hB,H.mono (by omega)⟩⟩
    have:∀ d,(d = .nils∨∃ r,d = .ms k r 0 l.length false)→appD m h k b d (.ok k []) = .ok d m h:=by
      intro d hd
      show ifR (Nat.beq k k) (appW m h k b d [])=_
      rw [Nat.beq_refl,ifR_true]
      rcases hd with rfl | ⟨r,rfl⟩ <;> rfl
    rcases hB with ⟨_,rfl⟩ | ⟨r,_,_,rfl,_⟩
    · exact this _ (.inl rfl)
    · exact this _ (.inr ⟨r,rfl⟩)
  | cons x xt =>
    have hlow:∀ (l:List α) q k,lowO q (.row k (l.map enc)):=fun l q k=>lowO_map (fun x=>he q x)
    simp only [List.length_cons] at hs
    rcases hB with ⟨rfl,rfl⟩ | ⟨r,hne,hr,rfl,hg⟩
    · refine ⟨fun m => .ms k m 0 (xt.length+1) false,fun m => (m,.row k ((x::xt).map enc))::h,fun m hm=>⟨?_,?_,?_⟩⟩
      · have:=appD_nils (n:=m) (h:=h) (b:=b) (q:=k) (x:=enc x) (xt:=xt.map enc) (by rw [List.length_map]; simpa using hs)
        rw [List.length_map] at this
        exact this
      · exact .inr ⟨m,by simp,by omega,by simp,by rw [getO_hd]; rfl⟩
      · exact H.cons hm (by omega) (fun q _=>hlow _ _ _)
    · refine ⟨fun m => .ms k m 0 (l.length + (xt.length+1)) false,fun m => (m,.row k (l.map enc ++ (x::xt).map enc))::delO h r,fun m hm=>⟨?_,?_,?_⟩⟩
      · have:=appD_ms (n:=m) (h:=h) (b:=b) (q:=k) (r:=r) (m:=l.length) (es:=l.map enc) (xs := (x::xt).map enc) (x:=enc x) (xt:=xt.map enc) rfl hg (by rw [List.length_map]) (by simpa using hs)
        simpa using this
      · exact .inr ⟨m,by simp,by omega,by simp,by rw [getO_hd,List.map_append]⟩
      · refine (H.del hr).cons hm (by omega) (fun q _=>?_)
        rw [← List.map_append]
        exact hlow _ _ _
theorem app_bld1 {α:Type} {enc:α→D} {k b n0:Nat} {h0:Hps} {l:List α} {d:D} (hB:Bld k enc n0 l h d) (H:Hp n0 h0 n h) (he:∀ m x,low m (enc x)) (x:α) (hs : (l.length+1)*b≤140737488355328) :
    ∃ (D':Nat→D) (H':Nat→Hps),(∀ m,n≤m→appD m h k b d (.ok k [enc x]) = .ok (D' m) m (H' m)) ∧ (∀ m,n≤m→Bld k enc n0 (l++[x]) (H' m) (D' m))∧∀ m,n≤m→Hp n0 h0 (m+1) (H' m):=by
  obtain ⟨D',H',h1⟩:=app_bld hB H he [x] hs
  exact ⟨D',H',fun m hm => (h1 m hm).1,fun m hm => (h1 m hm).2.1,fun m hm => (h1 m hm).2.2⟩
theorem app_bldx {α:Type} {enc:α→D} {k b n0 n1:Nat} {h0:Hps} {l:List α} {d:D} (hB:Bld k enc n1 l h d) (H:Hp n0 h0 n h) (h01:n0≤n1) (h1n:n1≤n) (he:∀ m x,low m (enc x)) (xs:List α) (hs : (l.length+xs.length)*b≤140737488355328) :
    ∃ (D':Nat→D) (H':Nat→Hps),∀ m,n≤m→appD m h k b d (.ok k (xs.map enc)) = .ok (D' m) m (H' m)∧Bld k enc n1 (l++xs) (H' m) (D' m)∧Hp n0 h0 (m+1) (H' m) ∧ (∀ q,q < n1→getO (H' m) q=getO h q)∧low (m+1) (D' m):=by
  have hle:=H.le
  cases xs with
  | nil =>
    refine ⟨fun _=>d,fun _=>h,fun m hm=>⟨?_,by rw [List.append_nil]; exact hB,H.mono (by omega),fun _ _=>rfl,?_⟩⟩
    · have:∀ d,(d = .nils∨∃ r,d = .ms k r 0 l.length false)→appD m h k b d (.ok k []) = .ok d m h:=by
        intro d hd
        show ifR (Nat.beq k k) (appW m h k b d [])=_
        rw [Nat.beq_refl,ifR_true]
        rcases hd with rfl | ⟨r,rfl⟩ <;> rfl
      rcases hB with ⟨_,rfl⟩ | ⟨r,_,_,rfl,_⟩
      · exact this _ (.inl rfl)
      · exact this _ (.inr ⟨r,rfl⟩)
    · rcases hB with ⟨_,rfl⟩ | ⟨r,_,_,rfl,hg⟩
      · exact low_flat rfl
      · exact low_ms (Nat.lt_of_lt_of_le (getO_low (H.good n (Nat.le_refl _)) (show getO h r ≠ .none by rw [hg]; exact fun h=>by cases h)) (by omega))
  | cons x xt =>
    have hlow:∀ (l:List α) q k,lowO q (.row k (l.map enc)):=fun l q k=>lowO_map (fun x=>he q x)
    simp only [List.length_cons] at hs
    rcases hB with ⟨rfl,rfl⟩ | ⟨r,hne,hr,rfl,hg⟩
    · refine ⟨fun m => .ms k m 0 (xt.length+1) false,fun m => (m,.row k ((x::xt).map enc))::h,fun m hm=>⟨?_,?_,?_,fun q hq=>getO_tl (by omega),low_ms (by omega)⟩⟩
      · have:=appD_nils (n:=m) (h:=h) (b:=b) (q:=k) (x:=enc x) (xt:=xt.map enc) (by rw [List.length_map]; simpa using hs)
        rw [List.length_map] at this
        exact this
      · exact .inr ⟨m,by simp,by omega,by simp,by rw [getO_hd]; rfl⟩
      · exact H.cons hm (by omega) (fun q _=>hlow _ _ _)
    · refine ⟨fun m => .ms k m 0 (l.length + (xt.length+1)) false,fun m => (m,.row k (l.map enc ++ (x::xt).map enc))::delO h r,fun m hm=>⟨?_,?_,?_,fun q hq=>?_,low_ms (by omega)⟩⟩
      · have:=appD_ms (n:=m) (h:=h) (b:=b) (q:=k) (r:=r) (m:=l.length) (es:=l.map enc) (xs := (x::xt).map enc) (x:=enc x) (xt:=xt.map enc) rfl hg (by rw [List.length_map]) (by simpa using hs)
        simpa using this
      · exact .inr ⟨m,by simp,by omega,by simp,by rw [getO_hd,List.map_append]⟩
      · refine (H.del (Nat.le_trans h01 hr)).cons hm (by omega) (fun q _=>?_)
        rw [← List.map_append]
        exact hlow _ _ _
      · rw [getO_tl (by omega),getO_delO,if_neg (by omega)]
theorem Bld.wide {α:Type} {enc:α→D} {k n1 n2:Nat} {l:List α} {d:D} (hB:Bld k enc n1 l h d) (hn:n2≤n1):Bld k enc n2 l h d:=by
  rcases hB with hB | ⟨r,q1,q2,q3,q4⟩
  · exact .inl hB
  · exact .inr ⟨r,q1,Nat.le_trans hn q2,q3,q4⟩
theorem Bld.low {α:Type} {enc:α→D} {k n1 m:Nat} {l:List α} {d:D} (hB:Bld k enc n1 l h d) (hg:GoodAt m h):Ytpbpmpabndgeeaa.low m d:=by
  rcases hB with ⟨_,rfl⟩ | ⟨r,_,_,rfl,q4⟩
  · exact low_flat rfl
  · exact low_ms (getO_low hg (show getO h r ≠ .none by rw [q4]; exact fun h=>by cases h))
theorem Bld.set {α:Type} {enc:α→D} {k n1 q kk:Nat} {es:List D} {l:List α} {d:D} {x:Ob} (hB:Bld k enc n1 l h d) (hg:getO h q = .row kk es) (hq:q < n1):Bld k enc n1 l (setO h q x) d:=by
  rcases hB with hB | ⟨r,q1,q2,q3,q4⟩
  · exact .inl hB
  · exact .inr ⟨r,q1,q2,q3,by rw [getO_setO _ _ _ _ (by rw [hg]; exact fun h=>by cases h),if_neg (by omega)]; exact q4⟩
theorem Bld.okD {α:Type} {enc:α→D} {k n1:Nat} {l:List α} {d:D} (hB:Bld k enc n1 l h d) (m:Nat) (h':Hps):Ytpbpmpabndgeeaa.okD m h' d = .ok d m h':=by
  rcases hB with ⟨_,rfl⟩ | ⟨r,_,_,rfl,_⟩ <;> rfl
theorem Bld.one {α:Type} {enc:α→D} {k n1:Nat} {l:List α} {d:D} (hB:Bld k enc n1 l h d):Ytpbpmpabndgeeaa.one d=true:=by
  rcases hB with ⟨_,rfl⟩ | ⟨r,_,_,rfl,_⟩ <;> rfl
theorem Bld.cellsX {α:Type} {enc:α→D} {k n1:Nat} {l:List α} {d:D} (hB:Bld k enc n1 l h d):Ytpbpmpabndgeeaa.cellsX d=some [d]:=by
  rcases hB with ⟨_,rfl⟩ | ⟨r,_,_,rfl,_⟩ <;> rfl
theorem Bld.lowF {α:Type} {enc:α→D} {k n1 m:Nat} {l:List α} {d:D} (hB:Bld k enc n1 l h d) (hg:GoodAt m h) (f:Nat):hasR m (f+1) d=false:=by
  rcases hB with ⟨_,rfl⟩ | ⟨r,_,_,rfl,q4⟩
  · rfl
  · exact ble_f (getO_low hg (show getO h r ≠ .none by rw [q4]; exact fun h=>by cases h))
theorem Bld.box2 {α:Type} {enc:α→D} {k n1 m:Nat} {l:List α} {d:D} {a:Int} (hB:Bld k enc n1 l h d) (hg:GoodAt m h):lowO m (.row 2 [.agg [.int .i64 a,d]]):=lowO_one (low_agg (fun x hx=>by
  rcases List.mem_cons.1 hx with rfl | hx
  · rfl
  · rw [List.mem_singleton.1 hx]; exact hB.lowF hg 18))

structure Sv {α:Type} (k:Nat) (enc:α→D) (n:Nat) (h:Hps) (d:D) (l:List α) (ad:Nat→D):Prop where
  len:∀ m h',lenD m h' .slice d = .ok (.int .i64 (l.length:Nat)) m h'
  idx:∀ m h' i,i < l.length→iaddrD m h' k d i = .ok (ad i) m h'
  ld:∀ h',(∀ q,q < n→getO h' q=getO h q)→∀ m i (hi:i < l.length),loadD true k m h' (ad i) = .ok (enc l[i]) m h'
  low:∀ m f,n≤m→hasR m (f+1) d=false
  okD:∀ m h',Ytpbpmpabndgeeaa.okD m h' d = .ok d m h'
  one:Ytpbpmpabndgeeaa.one d=true
  cellsX:Ytpbpmpabndgeeaa.cellsX d=some [d]
  sub:∀ kk,sub false kk 0 d=d
theorem Sv.slD {α:Type} {k:Nat} {enc:α→D} {n:Nat} {h:Hps} {s:Sl α} (he:∀ x,∃ cs,enc x = .agg cs∧cs.length=k):Sv k enc n h (slD k enc s) s.el (fun i => .ip (if hi:i < s.el.length then enc s.el[i] else .junk) 0) where
  len:=fun m h'=>len_slD
  idx:=fun m h' i hi=>by rw [iaddr_slD hi,dif_pos hi]
  ld:=fun h' _ m i hi=>by
    obtain ⟨cs,h1,h2⟩:=he s.el[i]
    rw [dif_pos hi,loadD_ip,h1,sub_all h2.symm]
    rfl
  low:=fun m f _=>by
    rcases slD_isSl k enc s with ⟨h1,_⟩ | ⟨_,_,h1⟩ <;> rw [h1] <;> rfl
  okD:=fun m h'=>okD_slD
  one:=one_slD
  cellsX:=cellsX_slD
  sub:=fun kk=>by rcases slD_isSl k enc s with ⟨h1,_⟩ | ⟨_,_,h1⟩ <;> rw [h1] <;> rfl
theorem Sv.mono {α:Type} {k n n' m:Nat} {enc:α→D} {h h':Hps} {d:D} {l:List α} {ad:Nat→D} (S:Sv k enc n h d l ad) (H:Hp n h n' h') (hm:n'≤m):Sv k enc m h' d l ad where
  len:=S.len
  idx:=S.idx
  ld:=fun h'' hq=>S.ld h'' (fun q h1=>by rw [hq q (by have:=H.le; omega),H.get h1])
  low:=fun m f h1=>S.low m f (by have:=H.le; omega)
  okD:=S.okD
  one:=S.one
  cellsX:=S.cellsX
  sub:=S.sub
theorem Sv.at {α:Type} {k n n':Nat} {enc:α→D} {h h':Hps} {d:D} {l:List α} {ad:Nat→D} (S:Sv k enc n h d l ad) (H:Hp n h n' h'):∀ m i (hi:i < l.length),loadD true k m h' (ad i) = .ok (enc l[i]) m h':=S.ld h' (fun _ hq=>H.get hq)
theorem Sv.box2 {α:Type} {k n m:Nat} {enc:α→D} {h:Hps} {d:D} {l:List α} {ad:Nat→D} {a:Int} (S:Sv k enc n h d l ad) (hm:n≤m):lowO m (.row 2 [.agg [.int .i64 a,d]]):=lowO_one (low_agg (fun x hx=>by
  rcases List.mem_cons.1 hx with rfl | hx
  · rfl
  · rw [List.mem_singleton.1 hx]; exact S.low m 18 hm))
theorem Bld.sv {α:Type} {k n1 m:Nat} {enc:α→D} {l:List α} {d:D} (hB:Bld k enc n1 l h d) (hg:GoodAt m h) (he:∀ x,∃ cs,enc x = .agg cs∧cs.length=k):∃ ad,Sv k enc m h d l ad:=by
  rcases hB with ⟨rfl,rfl⟩ | ⟨r,q1,q2,rfl,q4⟩
  · exact ⟨_,Sv.slD (s:=Sl.app []) he⟩
  · have hrm:=getO_low hg (show getO h r ≠ .none by rw [q4]; exact fun h=>by cases h)
    refine ⟨fun i => .ptr r i 0,⟨fun m h'=>rfl,fun m h' i hi=>?_,fun h' hq m i hi=>?_,fun m f hm=>ble_f (by omega),fun m h'=>rfl,rfl,rfl,fun kk=>rfl⟩⟩
    · show ifR (Bool.and (Nat.blt i l.length) (Nat.beq k k)) (.ok (.ptr r (0+i) 0) m h')=_
      rw [blt_iff,decide_eq_true hi,Nat.beq_refl,Nat.zero_add]; rfl
    · show loadR true k i 0 m h' (getO h' r)=_
      obtain ⟨cs,h1,h2⟩:=he l[i]
      rw [hq r hrm,q4,loadR_row,List.getD_eq_getElem?_getD,List.getElem?_map,List.getElem?_eq_getElem hi]
      show Ytpbpmpabndgeeaa.okD m h' (Ytpbpmpabndgeeaa.sub true k 0 (enc l[i]))=_
      rw [h1,sub_all h2.symm]; rfl
theorem Bld.disj {α:Type} {enc:α→D} {k n1 q:Nat} {l:List α} {d:D} (hB:Bld k enc n1 l h d) (hq:q < n1):Ytpbpmpabndgeeaa.disj (refO d) [q]=true:=by
  rcases hB with ⟨_,rfl⟩ | ⟨r,_,h2,rfl,_⟩
  · rfl
  · rw [refO_ms,disj_cons,memN_cons,memN_nil,decide_eq_false (by omega),disj_nil]; rfl
end
end Go.Proofs.Ytpbpmpabndgeeaa

/- Builders beside other objects that are looked at or written; maps. No condition. -/
namespace Go.Proofs.Ytpbpmpabndgeeaa
open Go

def off (q:Nat) (d:D):Prop:=∀ k o l f,d ≠ .ms k q o l f
theorem Bld.off {α:Type} {enc:α→D} {k n1 m q:Nat} {h:Hps} {l:List α} {d:D} (hB:Bld k enc n1 l h d) (hg:GoodAt m h) (hq:m≤q):Ytpbpmpabndgeeaa.off q d:=by
  rcases hB with ⟨_,rfl⟩ | ⟨r,_,_,rfl,q4⟩
  · exact fun _ _ _ _ e=>by cases e
  · have:=getO_low hg (show getO h r ≠ .none by rw [q4]; exact fun h=>by cases h)
    exact fun _ _ _ _ e=>by cases e; omega
theorem Bld.off' {α:Type} {enc:α→D} {k n1 q:Nat} {h:Hps} {l:List α} {d:D} (hB:Bld k enc n1 l h d) (hq:q < n1):Ytpbpmpabndgeeaa.off q d:=by
  rcases hB with ⟨_,rfl⟩ | ⟨r,_,q2,rfl,_⟩
  · exact fun _ _ _ _ e=>by cases e
  · exact fun _ _ _ _ e=>by cases e; omega
theorem Bld.setz {α:Type} {enc:α→D} {h:Hps} {k n1 q kk:Nat} {es:List D} {l:List α} {d:D} {x:Ob} (hB:Bld k enc n1 l h d) (hg:getO h q = .row kk es) (hq:Ytpbpmpabndgeeaa.off q d):Bld k enc n1 l (setO h q x) d:=by
  rcases hB with hB | ⟨r,q1,q2,rfl,q4⟩
  · exact .inl hB
  · exact .inr ⟨r,q1,q2,rfl,by rw [getO_setO _ _ _ _ (by rw [hg]; exact fun h=>by cases h),if_neg (fun e=>hq _ _ _ _ (by rw [e]))]; exact q4⟩
theorem app_bldz {α:Type} {enc:α→D} {k b n n0 n1:Nat} {h h0:Hps} {l:List α} {d:D} (hB:Bld k enc n1 l h d) (H:Hp n0 h0 n h) (h01:n0≤n1) (h1n:n1≤n) (he:∀ m x,low m (enc x)) (xs:List α) (hs : (l.length+xs.length)*b≤140737488355328) :
    ∃ (D':Nat→D) (H':Nat→Hps),∀ m,n≤m→appD m h k b d (.ok k (xs.map enc)) = .ok (D' m) m (H' m)∧Bld k enc n1 (l++xs) (H' m) (D' m)∧Hp n0 h0 (m+1) (H' m) ∧ (∀ q,q < n→off q d→getO (H' m) q=getO h q∧off q (D' m))∧low (m+1) (D' m):=by
  have hle:=H.le
  cases xs with
  | nil =>
    refine ⟨fun _=>d,fun _=>h,fun m hm=>⟨?_,by rw [List.append_nil]; exact hB,H.mono (by omega),fun _ _ h=>⟨rfl,h⟩,?_⟩⟩
    · have:∀ d,(d = .nils∨∃ r,d = .ms k r 0 l.length false)→appD m h k b d (.ok k []) = .ok d m h:=by
        intro d hd
        show ifR (Nat.beq k k) (appW m h k b d [])=_
        rw [Nat.beq_refl,ifR_true]
        rcases hd with rfl | ⟨r,rfl⟩ <;> rfl
      rcases hB with ⟨_,rfl⟩ | ⟨r,_,_,rfl,_⟩
      · exact this _ (.inl rfl)
      · exact this _ (.inr ⟨r,rfl⟩)
    · rcases hB with ⟨_,rfl⟩ | ⟨r,_,_,rfl,hg⟩
      · exact low_flat rfl
      · exact low_ms (Nat.lt_of_lt_of_le (getO_low (H.good n (Nat.le_refl _)) (show getO h r ≠ .none by rw [hg]; exact fun h=>by cases h)) (by omega))
  | cons x xt =>
    have hlow:∀ (l:List α) q k,lowO q (.row k (l.map enc)):=fun l q k=>lowO_map (fun x=>he q x)
    simp only [List.length_cons] at hs
    rcases hB with ⟨rfl,rfl⟩ | ⟨r,hne,hr,rfl,hg⟩
    · refine ⟨fun m => .ms k m 0 (xt.length+1) false,fun m => (m,.row k ((x::xt).map enc))::h,fun m hm=>⟨?_,?_,?_,fun q hq _=>⟨getO_tl (by omega),fun _ _ _ _ e=>by cases e; omega⟩,low_ms (by omega)⟩⟩
      · have:=appD_nils (n:=m) (h:=h) (b:=b) (q:=k) (x:=enc x) (xt:=xt.map enc) (by rw [List.length_map]; simpa using hs)
        rw [List.length_map] at this
        exact this
      · exact .inr ⟨m,by simp,by omega,by simp,by rw [getO_hd]; rfl⟩
      · exact H.cons hm (by omega) (fun q _=>hlow _ _ _)
    · refine ⟨fun m => .ms k m 0 (l.length + (xt.length+1)) false,fun m => (m,.row k (l.map enc ++ (x::xt).map enc))::delO h r,fun m hm=>⟨?_,?_,?_,fun q hq ho=>⟨?_,fun _ _ _ _ e=>by cases e; omega⟩,low_ms (by omega)⟩⟩
      · have:=appD_ms (n:=m) (h:=h) (b:=b) (q:=k) (r:=r) (m:=l.length) (es:=l.map enc) (xs := (x::xt).map enc) (x:=enc x) (xt:=xt.map enc) rfl hg (by rw [List.length_map]) (by simpa using hs)
        simpa using this
      · exact .inr ⟨m,by simp,by omega,by simp,by rw [getO_hd,List.map_append]⟩
      · refine (H.del (Nat.le_trans h01 hr)).cons hm (by omega) (fun q _=>?_)
        rw [← List.map_append]
        exact hlow _ _ _
      · rw [getO_tl (by omega),getO_delO,if_neg (fun e=>ho _ _ _ _ (by rw [e]))]

theorem Hp.map {n0 n m r:Nat} {h0 h:Hps} {es:List (D×D)} (H:Hp n0 h0 n h) (hr:n≤r) (hm:r < m) (hes:∀ k,obR1 k (.map es)=false):Hp n0 h0 m ((r,.map es)::h) :=
  H.cons hr hm (fun k _=>hes k)
end Go.Proofs.Ytpbpmpabndgeeaa
