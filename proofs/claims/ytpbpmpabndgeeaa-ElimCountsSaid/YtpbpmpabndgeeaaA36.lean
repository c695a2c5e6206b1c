/- Slice expressions, casts, loops in general. No condition. -/
import Derived.Test.YtpbpmpabndgeeaaA34

/- What a function keeps of the heap; slices put together by appending; what is handed back,frozen. No condition. -/
set_option linter.unusedSimpArgs false
set_option linter.unusedVariables false
namespace Go.Proofs.Ytpbpmpabndgeeaa
open Go

structure Hp (n0:Nat) (h0:Hps) (n:Nat) (h:Hps):Prop where
  le:n0≤n
  good:∀ k,n≤k→GoodAt k h
  drop:dropFrom n0 h=h0
  leak:Ytpbpmpabndgeeaa.leak n0 h=false

section
variable {n0 n:Nat} {h0 h:Hps} {α:Type} {enc:α→D} {k:Nat}

theorem Hp.start (hg:∀ k,n0≤k→GoodAt k h0):Hp n0 h0 n0 h0:=⟨Nat.le_refl _,hg,good_drop (hg n0 (Nat.le_refl _)),good_leak (hg n0 (Nat.le_refl _))⟩
theorem Hp.mono {m:Nat} (H:Hp n0 h0 n h) (hm:n≤m):Hp n0 h0 m h:=⟨Nat.le_trans H.le hm,fun k hk=>H.good k (Nat.le_trans hm hk),H.drop,H.leak⟩
theorem Hp.cons {m r:Nat} {o:Ob} (H:Hp n0 h0 n h) (hr:n≤r) (hm:r < m) (ho:∀ k,m≤k→lowO k o):Hp n0 h0 m ((r,o)::h):=by
  have:=H.le
  refine ⟨by omega,fun k hk=>good_cons.2 ⟨by omega,ho k hk,H.good k (by omega)⟩,?_,?_⟩
  · rw [drop_new (by omega)]; exact H.drop
  · rw [leak_new (by omega)]; exact H.leak
theorem good_del {m r:Nat} (hg:GoodAt m h):GoodAt m (delO h r):=by
  induction h with
  | nil=>exact hg
  | cons p t ih =>
    obtain ⟨q,o⟩:=p
    obtain ⟨h1,h2,h3⟩:=good_cons.1 hg
    show GoodAt m (Bool.rec (motive:=fun _=>Hps) ((q,o)::delO t r) (delO t r) (Nat.beq q r))
    cases Nat.beq q r with
    | true=>exact ih h3
    | false=>exact good_cons.2 ⟨h1,h2,ih h3⟩
theorem good_set {m r:Nat} {x:Ob} (hg:GoodAt m h) (hx:lowO m x):GoodAt m (setO h r x):=by
  induction h with
  | nil=>exact hg
  | cons p t ih =>
    obtain ⟨q,o⟩:=p
    obtain ⟨h1,h2,h3⟩:=good_cons.1 hg
    show GoodAt m (Bool.rec (motive:=fun _=>Hps) ((q,o)::setO t r x) ((q,x)::t) (Nat.beq q r))
    cases Nat.beq q r with
    | true=>exact good_cons.2 ⟨h1,hx,h3⟩
    | false=>exact good_cons.2 ⟨h1,h2,ih h3⟩
theorem leak_old {q:Nat} {o:Ob} (hq:q < n0):leak n0 ((q,o)::h)=Bool.or (obR1 n0 o) (leak n0 h):=by
  show Bool.rec (motive:=fun _=>Bool) (leak n0 h) (Bool.or (obR1 n0 o) (leak n0 h)) (Nat.blt q n0)=_
  rw [blt_iff,decide_eq_true hq]
theorem drop_old {q:Nat} {o:Ob} (hq:q < n0):dropFrom n0 ((q,o)::h) = (q,o)::dropFrom n0 h:=by
  show Bool.rec (motive:=fun _=>Hps) (dropFrom n0 h) ((q,o)::dropFrom n0 h) (Nat.blt q n0)=_
  rw [blt_iff,decide_eq_true hq]
theorem del_same {r:Nat} (hr:n0≤r):dropFrom n0 (delO h r)=dropFrom n0 h∧leak n0 (delO h r)=leak n0 h:=by
  induction h with
  | nil=>exact ⟨rfl,rfl⟩
  | cons p t ih =>
    obtain ⟨q,o⟩:=p
    by_cases e:q=r
    · subst e
      rw [delO_hd,drop_new hr,leak_new hr]; exact ih
    · rw [delO_tl e]
      by_cases hq:q < n0
      · rw [drop_old hq,drop_old hq,leak_old hq,leak_old hq,ih.1,ih.2]; exact ⟨rfl,rfl⟩
      · rw [drop_new (by omega),drop_new (by omega),leak_new (by omega),leak_new (by omega)]; exact ih
theorem set_same {r:Nat} {x:Ob} (hr:n0≤r):dropFrom n0 (setO h r x)=dropFrom n0 h∧leak n0 (setO h r x)=leak n0 h:=by
  induction h with
  | nil=>exact ⟨rfl,rfl⟩
  | cons p t ih =>
    obtain ⟨q,o⟩:=p
    by_cases e:q=r
    · subst e
      rw [setO_hd,drop_new hr,leak_new hr,drop_new hr,leak_new hr]; exact ⟨rfl,rfl⟩
    · rw [setO_tl e]
      by_cases hq:q < n0
      · rw [drop_old hq,drop_old hq,leak_old hq,leak_old hq,ih.1,ih.2]; exact ⟨rfl,rfl⟩
      · rw [drop_new (by omega),drop_new (by omega),leak_new (by omega),leak_new (by omega)]; exact ih
theorem Hp.del {r:Nat} (H:Hp n0 h0 n h) (hr:n0≤r):Hp n0 h0 n (delO h r) :=
  ⟨H.le,fun k hk=>good_del (H.good k hk),(del_same hr).1.trans H.drop,(del_same hr).2.trans H.leak⟩
theorem Hp.set {r:Nat} {x:Ob} (H:Hp n0 h0 n h) (hr:n0≤r) (hx:∀ k,n≤k→lowO k x):Hp n0 h0 n (setO h r x) :=
  ⟨H.le,fun k hk=>good_set (H.good k hk) (hx k hk),(set_same hr).1.trans H.drop,(set_same hr).2.trans H.leak⟩
theorem getO_low {r:Nat} (hg:GoodAt n h) (hr:getO h r ≠ .none):r < n:=by
  induction h with
  | nil=>exact absurd rfl hr
  | cons p t ih =>
    obtain ⟨q,o⟩:=p
    obtain ⟨h1,h2,h3⟩:=good_cons.1 hg
    rw [getO_cons] at hr
    by_cases e:q=r
    · omega
    · rw [if_neg e] at hr; exact ih h3 hr

theorem appD_nils {b q:Nat} {x:D} {xt:List D} (hs : (xt.length+1)*b≤140737488355328):appD n h q b .nils (.ok q (x::xt)) = .ok (.ms q n 0 (xt.length+1) false) n ((n,.row q (x::xt))::h):=by
  show ifR (Nat.beq q q) (ifR (Nat.ble (lenL (x::xt)*b) most) (.ok (.ms q n 0 (lenL (x::xt)) false) n ((n,.row q (x::xt))::h)))=_
  rw [Nat.beq_refl,ifR_true,lenL_eq,List.length_cons,ble_iff]
  unfold most
  rw [decide_eq_true hs]; rfl
theorem appD_ms {b q r m:Nat} {es xs:List D} {x:D} {xt:List D} (hxs:xs=x::xt) (hg:getO h r = .row q es) (hm:m=es.length) (hs : (es.length+xs.length)*b≤140737488355328) :
    appD n h q b (.ms q r 0 m false) (.ok q xs) = .ok (.ms q n 0 (es.length+xs.length) false) n ((n,.row q (es++xs))::delO h r):=by
  subst hxs
  subst hm
  show ifR (Nat.beq q q) (ifR (Nat.beq q q) (appR n h q b r 0 es.length false (x::xt) (getO h r)))=_
  rw [Nat.beq_refl,ifR_true,ifR_true,hg]
  show ifR (Bool.and (Nat.beq 0 0) (Nat.beq es.length (lenL es))) (ifR (Nat.ble ((lenL es+lenL (x::xt))*b) most) (.ok (.ms q n 0 (lenL es+lenL (x::xt)) false) n ((n,.row q (appL es (x::xt)))::delO h r)))=_
  rw [lenL_eq,lenL_eq,Nat.beq_refl,Nat.beq_refl,ble_iff,appL_eq]
  unfold most
  rw [decide_eq_true hs]; rfl
theorem view_sl {q p:Nat} {es sp:List D} {f:Bool}:view q h (.sl p es sp f) = .ok p es:=eqOf rfl
theorem view_nils {q:Nat}:view q h .nils = .ok q []:=eqOf rfl
theorem view_slD {s:Sl α}:view k h (slD k enc s) = .ok k (s.el.map enc):=by
  rcases slD_isSl k enc s with ⟨h1,h2⟩ | ⟨_,_,h1⟩
  · rw [h1,h2]; rfl
  · rw [h1]; rfl
def Bld (k:Nat) (enc:α→D) (n0:Nat) (l:List α) (h:Hps) (d:D):Prop := (l=[]∧d = .nils)∨∃ r,l≠[]∧n0≤r∧d = .ms k r 0 l.length false∧getO h r = .row k (l.map enc)
theorem bsl_one {q:Nat} {d:D} (hd:okE q d=true):bslD n h q [d] = .ok (.sl q [d] [] true) n h:=by
  show Bool.rec (motive:=fun _=>Rd) (ifR (allL (okF q) [d]) (.ok (.ms q n 0 (lenL [d]) true) n ((n,.row q [d])::h))) (.ok (.sl q [d] [] true) n h) (allL (okE q) [d])=_
  have:allL (okE q) [d]=true:=by rw [allL_eq]; simp [hd]
  rw [this]

structure Fz (c n0:Nat) (h:Hps) (d d':D):Prop where
  frz:∀ f,c≤f→Ytpbpmpabndgeeaa.frz h n0 f d=d'
  hasP:∀ f,c≤f→Ytpbpmpabndgeeaa.hasP n0 f d=false
  hasR:∀ f,c≤f→Ytpbpmpabndgeeaa.hasR n0 f d'=false
  hasJ:∀ f,c≤f→Ytpbpmpabndgeeaa.hasJ f d'=false
theorem Fz.mono {c c':Nat} {d d':D} (H:Fz c n0 h d d') (hc:c≤c'):Fz c' n0 h d d' :=
  ⟨fun f hf=>H.frz f (Nat.le_trans hc hf),fun f hf=>H.hasP f (Nat.le_trans hc hf),fun f hf=>H.hasR f (Nat.le_trans hc hf),fun f hf=>H.hasJ f (Nat.le_trans hc hf)⟩
theorem Fz.of1 {d:D} (hd:flat1 d=true):Fz 1 n0 h d d:=by
  have key:∀ f,1≤f→∃ g,f=g+1:=fun f hf=>⟨f - 1,by omega⟩
  refine ⟨fun f hf=>?_,fun f hf=>?_,fun f hf=>?_,fun f hf=>?_⟩ <;> obtain ⟨g,rfl⟩:=key f hf
  · exact (plain1 g hd).frz h n0
  · exact (plain1 g hd).hasP n0
  · exact (plain1 g hd).hasR n0
  · exact (plain1 g hd).hasJ
theorem Fz.of2 {d:D} (hd:flat2 d=true):Fz 2 n0 h d d:=by
  have key:∀ f,2≤f→∃ g,f=g+2:=fun f hf=>⟨f - 2,by omega⟩
  refine ⟨fun f hf=>?_,fun f hf=>?_,fun f hf=>?_,fun f hf=>?_⟩ <;> obtain ⟨g,rfl⟩:=key f hf
  · exact (plain2 g hd).frz h n0
  · exact (plain2 g hd).hasP n0
  · exact (plain2 g hd).hasR n0
  · exact (plain2 g hd).hasJ
inductive FzL (c n0:Nat) (h:Hps):List D→List D→Prop where
  | nil:FzL c n0 h [] []
  | cons {d d':D} {l l':List D}:Fz c n0 h d d'→FzL c n0 h l l'→FzL c n0 h (d::l) (d'::l')
theorem FzL.list {c:Nat} {l l':List D} (H:FzL c n0 h l l') (f:Nat) (hf:c≤f):mapL (Ytpbpmpabndgeeaa.frz h n0 f) l=l'∧Bool.not (allL (fun d=>Bool.not (Ytpbpmpabndgeeaa.hasP n0 f d)) l)=false ∧
    Bool.not (allL (fun d=>Bool.not (Ytpbpmpabndgeeaa.hasR n0 f d)) l')=false∧Bool.not (allL (fun d=>Bool.not (Ytpbpmpabndgeeaa.hasJ f d)) l')=false:=by
  rw [mapL_eq,allL_eq,allL_eq,allL_eq]
  induction H with
  | nil=>exact ⟨rfl,rfl,rfl,rfl⟩
  | cons h1 _ ih =>
    obtain ⟨i1,i2,i3,i4⟩:=ih
    refine ⟨by rw [List.map_cons,i1,h1.frz f hf],?_,?_,?_⟩
    · rw [List.all_cons,h1.hasP f hf]; exact i2
    · rw [List.all_cons,h1.hasR f hf]; exact i3
    · rw [List.all_cons,h1.hasJ f hf]; exact i4
theorem Fz.agg {c:Nat} {l l':List D} (H:FzL c n0 h l l'):Fz (c+1) n0 h (.agg l) (.agg l'):=by
  have key:∀ f,c+1≤f→∃ g,f=g+1∧c≤g:=fun f hf=>⟨f - 1,by omega,by omega⟩
  refine ⟨fun f hf=>?_,fun f hf=>?_,fun f hf=>?_,fun f hf=>?_⟩ <;> obtain ⟨g,rfl,hg⟩:=key f hf
  · exact congrArg D.agg (H.list g hg).1
  · exact (H.list g hg).2.1
  · exact (H.list g hg).2.2.1
  · exact (H.list g hg).2.2.2
theorem Fz.tup {c:Nat} {l l':List D} (H:FzL c n0 h l l'):Fz (c+1) n0 h (.tup l) (.tup l'):=by
  have key:∀ f,c+1≤f→∃ g,f=g+1∧c≤g:=fun f hf=>⟨f - 1,by omega,by omega⟩
  refine ⟨fun f hf=>?_,fun f hf=>?_,fun f hf=>?_,fun f hf=>?_⟩ <;> obtain ⟨g,rfl,hg⟩:=key f hf
  · exact congrArg D.tup (H.list g hg).1
  · exact (H.list g hg).2.1
  · exact (H.list g hg).2.2.1
  · exact (H.list g hg).2.2.2
structure ElemOk (k:Nat) (enc:α→D):Prop where
  flat:∀ x,flat2 (enc x)=true
  ok:∀ x,okE k (enc x)=true
theorem spareK_nil {k:Nat} {full:Bool}:spareK k [] full=[]:=by
  unfold spareK
  cases full with
  | true=>rfl
  | false=>cases Bool.and (Nat.blt 0 k) (allL (okE k) []) <;> rfl
theorem Fz.ms {r:Nat} {l:List α} {full:Bool} (he:ElemOk k enc) (hr:n0≤r) (hg:getO h r = .row k (l.map enc)):Fz 3 n0 h (.ms k r 0 l.length full) (.sl k (l.map enc) [] full):=by
  have key:∀ f,3≤f→∃ g,f=g+3:=fun f hf=>⟨f - 3,by omega⟩
  refine ⟨fun f hf=>?_,fun f hf=>?_,fun f hf=>?_,fun f hf=>?_⟩ <;> obtain ⟨g,rfl⟩:=key f hf
  · show Bool.rec (motive:=fun _=>D) (frzO (Ytpbpmpabndgeeaa.frz h n0 (g+2)) k 0 l.length full (getO h r)) (.ms k r 0 l.length full) (Nat.blt r n0)=_
    rw [blt_iff,decide_eq_false (by omega),hg]
    show Bool.rec (motive:=fun _=>D) .junk (frzS k (mapL (Ytpbpmpabndgeeaa.frz h n0 (g+2)) (takeL l.length (dropL 0 (l.map enc)))) (dropL (0+l.length) (l.map enc)) full) (Bool.and (Nat.beq k k) (Nat.ble (0+l.length) (lenL (l.map enc))))=_
    rw [Nat.beq_refl,lenL_eq,List.length_map,Nat.zero_add,ble_iff,decide_eq_true (Nat.le_refl _),takeL_eq,dropL_eq,dropL_eq,List.drop_zero,List.take_of_length_le (by simp),mapL_eq]
    have h1 : (l.map enc).map (Ytpbpmpabndgeeaa.frz h n0 (g+2))=l.map enc:=by
      rw [List.map_map]
      exact List.map_congr_left (fun x _ => (plain2 g (he.flat x)).frz h n0)
    rw [h1]
    rw [List.drop_of_length_le (show (l.map enc).length≤l.length by rw [List.length_map]; exact Nat.le_refl _)]
    show frzS k (l.map enc) [] full=_
    unfold frzS
    rw [spareK_nil]
    have h2:allL (okE k) (l.map enc)=true:=by
      rw [allL_eq,List.all_eq_true]
      intro d hd
      obtain ⟨x,_,rfl⟩:=List.mem_map.1 hd
      exact he.ok x
    rw [h2]
  · rfl
  · rfl
  · rfl
theorem Fz.bld {l:List α} {d:D} (he:ElemOk k enc) (hB:Bld k enc n0 l h d):Fz 3 n0 h d (slD k enc (Sl.app l)):=by
  rcases hB with ⟨rfl,rfl⟩ | ⟨r,hne,hr,rfl,hg⟩
  · exact (Fz.of1 rfl).mono (by omega)
  · cases l with
    | nil=>exact absurd rfl hne
    | cons x t=>exact Fz.ms he hr hg
theorem finishD_fz {c:Nat} {d d':D} (H:Fz c n0 h d d') (hc:c≤20) (hl:leak n0 h=false):finishD n0 n h d = .ok d' n0 (dropFrom n0 h):=by
  unfold finishD
  rw [H.hasP 20 hc,hl,H.frz 60 (by omega)]
  show finishF n0 n h d d'=_
  unfold finishF
  rw [H.hasJ 20 hc,H.hasR 20 hc]
  rfl
end
end Go.Proofs.Ytpbpmpabndgeeaa

/- Slice expressions,casts,loops in general. No condition. -/
namespace Go.Proofs.Ytpbpmpabndgeeaa
open Go

noncomputable def optE (env:Tr) (x:Option Opd) (d:Nat):D:=match x with
  | none => .int .i64 (d:Int)
  | some x=>ev env x
noncomputable def slcX {α:Type} (n:Nat) (h:Hps) (k:Nat) (enc:α→D) (s:Sl α) (lo hi:D):Rd :=
  natR (fun a=>natR (fun b=>if a≤b∧b≤s.el.length+s.sp.length then .ok (slD k enc (s.cut a b)) n h else .bad) hi) lo

section
variable {n:Nat} {h:Hps} {α:Type} {enc:α→D} {k:Nat} {s:Sl α}
theorem optN_optE {env:Tr} {x:Option Opd} {d:Nat} {f:Nat→Rd}:optN env x d f=natR f (optE env x d):=by cases x <;> rfl
theorem ifR_and {p q:Prop} [Decidable p] [Decidable q] {r:Rd}:ifR (Bool.and (decide p) (decide q)) r=if p∧q then r else .bad:=by
  by_cases hp:p <;> by_cases hq:q
  · rw [if_pos ⟨hp,hq⟩,decide_eq_true hp,decide_eq_true hq]; rfl
  · rw [if_neg (fun x=>hq x.2),decide_eq_true hp,decide_eq_false hq]; rfl
  · rw [if_neg (fun x=>hp x.1),decide_eq_false hp]; rfl
  · rw [if_neg (fun x=>hp x.1),decide_eq_false hp]; rfl
theorem slice_eq {env:Tr} {lo hi:Option Opd}:sliceD n h k env (slD k enc s) lo hi none=slcX n h k enc s (optE env lo 0) (optE env hi s.el.length):=by
  show slice2 n h k env (slD k enc s) lo hi=_
  unfold slcX slD
  cases hs : (s.nil && s.el.isEmpty && s.sp.isEmpty) with
  | true =>
    simp only [Bool.and_eq_true,List.isEmpty_iff] at hs
    obtain ⟨⟨h1,h2⟩,h3⟩:=hs
    show optN env lo 0 (fun l=>optN env hi 0 fun u=>slN n h l u)=_
    rw [optN_optE,show s.el.length=0 by rw [h2]; rfl]
    congr 1
    funext a
    rw [optN_optE]
    congr 1
    funext b
    show ifR (Bool.and (Nat.beq b 0) (Nat.beq a 0)) (.ok .nils n h)=_
    rw [beq_iff,beq_iff,ifR_and,h3]
    by_cases hab:b=0∧a=0
    · rw [if_pos hab,if_pos ⟨by omega,by simp; omega⟩]
      obtain ⟨rfl,rfl⟩:=hab
      have : ((s.cut 0 0).nil && (s.cut 0 0).el.isEmpty && (s.cut 0 0).sp.isEmpty)=true:=by simp [Sl.cut,h1,h2,h3]
      rw [this]; rfl
    · rw [if_neg hab,if_neg (by rintro ⟨h4,h5⟩; simp at h5; omega)]
  | false =>
    show ifR (Nat.beq k k) (optN env lo 0 fun l=>optN env hi (lenL (s.el.map enc)) fun u=>slL n h k (s.el.map enc) (s.sp.map enc) s.full l u)=_
    rw [Nat.beq_refl,ifR_true,optN_optE,lenL_eq,List.length_map]
    congr 1
    funext a
    rw [optN_optE]
    congr 1
    funext b
    show ifR (Bool.and (Nat.ble a b) (Nat.ble b (lenL (s.el.map enc)+lenL (s.sp.map enc)))) (.ok (.sl k (takeL (b - a) (dropL a (appL (s.el.map enc) (s.sp.map enc)))) (dropL b (appL (s.el.map enc) (s.sp.map enc))) (Bool.and s.full (Nat.beq b (lenL (s.el.map enc))))) n h)=_
    rw [lenL_eq,lenL_eq,List.length_map,List.length_map,ble_iff,ble_iff,ifR_and,takeL_eq,dropL_eq,dropL_eq,appL_eq,← List.map_append,← List.map_drop,← List.map_drop,← List.map_take,beq_iff]
    have hf : (s.cut a b).nil=false:=hs
    rw [hf,Bool.false_and,Bool.false_and]
    rfl
theorem optE_none {env:Tr} {d:Nat}:optE env none d = .int .i64 (d:Int):=eqOf rfl
theorem optE_some {env:Tr} {x:Opd} {d:Nat}:optE env (some x) d=ev env x:=eqOf rfl
theorem slcX_nat {q p:IntKind} {a b:Nat} (hab:a≤b) (hb:b≤s.el.length+s.sp.length):slcX n h k enc s (.int q (a:Int)) (.int p (b:Int)) = .ok (slD k enc (s.cut a b)) n h:=by
  show (if a≤b∧b≤s.el.length+s.sp.length then Rd.ok (slD k enc (s.cut a b)) n h else .bad)=_
  rw [if_pos ⟨hab,hb⟩]
theorem slcX_zero {q p:IntKind} {b:Nat} (hb:b≤s.el.length+s.sp.length):slcX n h k enc s (.int q 0) (.int p (b:Int)) = .ok (slD k enc (s.cut 0 b)) n h:=slcX_nat (a:=0) (Nat.zero_le _) hb
theorem slcX_one {q p:IntKind} {b:Nat} (h1:1≤b) (hb:b≤s.el.length+s.sp.length):slcX n h k enc s (.int q 1) (.int p (b:Int)) = .ok (slD k enc (s.cut 1 b)) n h:=slcX_nat (a:=1) h1 hb
theorem cast_add (a b:Nat) : (a:Int) + (b:Int) = ((a+b:Nat):Int) := (Int.natCast_add a b).symm
theorem cast_add1 (a:Nat) : (a:Int)+1 = ((a+1:Nat):Int):=eqOf rfl
theorem natR_zero {f:Nat→Rd} {q:IntKind}:natR f (.int q 0)=f 0:=eqOf rfl
theorem natR_one {f:Nat→Rd} {q:IntKind}:natR f (.int q 1)=f 1:=eqOf rfl

theorem loop_next {F:Nat→DFn} {b:DCode} {e:Tr} {e':Tr} {n':Nat} {h':Hps} (hb:LX F b e n h = .ok .normal e' n' h'):LX F (.loop b) e n h=LX F (.loop b) e' n' h':=by
  rw [LX_loop,hb,seqR_normal]

theorem setO_setO {r:Nat} {x y:Ob}:setO (setO h r x) r y=setO h r y:=by
  induction h with
  | nil=>rfl
  | cons p t ih =>
    obtain ⟨q,o⟩:=p
    by_cases e:q=r
    · subst e; rw [setO_hd,setO_hd,setO_hd]
    · rw [setO_tl e,setO_tl e,setO_tl e,ih]
theorem getO_setO_same {r:Nat} {x:Ob} (hr:getO h r ≠ .none):getO (setO h r x) r=x:=by rw [getO_setO _ _ _ _ hr,if_pos rfl]
theorem setO_self {r:Nat} {x:Ob} (hx:getO h r=x):setO h r x=h:=by
  induction h with
  | nil=>rfl
  | cons p t ih =>
    obtain ⟨q,o⟩:=p
    rw [getO_cons] at hx
    by_cases e:q=r
    · rw [if_pos e] at hx; subst e; subst hx; rw [setO_hd]
    · rw [if_neg e] at hx; rw [setO_tl e,ih hx]
theorem set_low {n0 r:Nat} {x:Ob} (hr:r < n0) (hx:obR1 n0 x=false):dropFrom n0 (setO h r x)=setO (dropFrom n0 h) r x ∧ (leak n0 h=false→leak n0 (setO h r x)=false):=by
  induction h with
  | nil=>exact ⟨rfl,fun h=>h⟩
  | cons p t ih =>
    obtain ⟨q,o⟩:=p
    by_cases e:q=r
    · subst e
      rw [setO_hd,drop_old hr,drop_old hr,setO_hd,leak_old hr,leak_old hr]
      refine ⟨rfl,fun h=>?_⟩
      rw [hx]
      cases ho:obR1 n0 o with
      | true=>rw [ho] at h; cases h
      | false=>rw [ho] at h; exact h
    · rw [setO_tl e]
      by_cases hq:q < n0
      · rw [drop_old hq,drop_old hq,setO_tl e,leak_old hq,leak_old hq,ih.1]
        refine ⟨rfl,fun h=>?_⟩
        cases ho:obR1 n0 o with
        | true=>rw [ho] at h; cases h
        | false=>rw [ho] at h; exact ih.2 h
      · rw [drop_new (by omega),drop_new (by omega),leak_new (by omega),leak_new (by omega)]; exact ih
theorem Hp.setLow {n0 r:Nat} {h0:Hps} {x:Ob} (H:Hp n0 h0 n h) (hr:r < n0) (hx0:obR1 n0 x=false) (hx:∀ k,n≤k→lowO k x):Hp n0 (setO h0 r x) n (setO h r x) :=
  ⟨H.le,fun k hk=>good_set (H.good k hk) (hx k hk),by rw [(set_low hr hx0).1,H.drop],(set_low hr hx0).2 H.leak⟩
theorem Hp.get {n0 r:Nat} {h0:Hps} (H:Hp n0 h0 n h) (hr:r < n0):getO h r=getO h0 r:=by
  rw [← H.drop,getO_dropFrom,if_pos hr]

theorem appD_un {b q p r o m:Nat} {f:Bool} {x:D} {xt:List D} (hq:q=p):appD n h q b (.ms p r o m f) (.ok q (x::xt))=appR n h q b r o m f (x::xt) (getO h r):=by
  subst hq
  show ifR (Nat.beq q q) (ifR (Nat.beq q q) (appR n h q b r o m f (x::xt) (getO h r)))=_
  rw [Nat.beq_refl]; rfl
theorem appR_row {b q p r m:Nat} {es:List D} {x:D} (hm:m=es.length) (hs : (es.length+1)*b≤140737488355328):appR n h q b r 0 m false [x] (.row p es) = .ok (.ms q n 0 (es.length+1) false) n ((n,.row q (es++[x]))::delO h r):=by
  subst hm
  show ifR (Bool.and (Nat.beq 0 0) (Nat.beq es.length (lenL es))) (ifR (Nat.ble ((lenL es+lenL [x])*b) most) (.ok (.ms q n 0 (lenL es+lenL [x]) false) n ((n,.row q (appL es [x]))::delO h r)))=_
  rw [lenL_eq,lenL_eq,Nat.beq_refl,Nat.beq_refl,ble_iff,appL_eq]
  unfold most
  rw [decide_eq_true (show (es.length+[x].length)*b≤140737488355328 from hs)]; rfl
theorem storeR_box {q r:Nat} {xs ys:List D} (hk:k=xs.length) (hl:xs.length=ys.length):storeR true k r 0 0 (.agg xs) n h (.row q [.agg ys]) = .ok .junk n (setO h r (.row q [.agg xs])):=storeR_all (es:=[.agg ys]) rfl (by simp) hk hl
theorem storeR_boxc {q r j:Nat} {x:D} {ys:List D} (hj:j < ys.length) (hx:one x=true):storeR false k r 0 j x n h (.row q [.agg ys]) = .ok .junk n (setO h r (.row q [.agg (ys.set j x)])):=storeR_cell (es:=[.agg ys]) rfl (by simp) hj hx
theorem storeR_box1 {q r:Nat} {x y:D} (hy:one y=true) (hx:one x=true):storeR false k r 0 0 x n h (.row q [y]) = .ok .junk n (setO h r (.row q [x])):=storeR_one (es:=[y]) rfl hy (by simp) hx
theorem fillP_nil {e:Tr} {l:Option (List D)}:fillP e [] l=l:=eqOf rfl
theorem fillP_cons {e:Tr} {a b:Nat} {x:Opd} {ps:List (Nat×Nat×Opd)} {l:Option (List D)}:fillP e ((a,b,x)::ps) l=fillP e ps (fld2 b a l (cellsX (ev e x))):=eqOf rfl
theorem cellsX_agg {cs:List D}:cellsX (.agg cs)=some cs:=eqOf rfl
theorem cellsX_int {q:IntKind} {a:Int}:cellsX (.int q a)=some [.int q a]:=eqOf rfl
theorem cellsX_bool {a:Bool}:cellsX (.bool a)=some [.bool a]:=eqOf rfl
theorem cellsX_str {a:List Nat}:cellsX (.str a)=some [.str a]:=eqOf rfl
theorem cellsX_nils:cellsX .nils=some [.nils]:=eqOf rfl
theorem cellsX_sl {q:Nat} {a b:List D} {f:Bool}:cellsX (.sl q a b f)=some [.sl q a b f]:=eqOf rfl
theorem cellsX_ms {q r o l:Nat} {f:Bool}:cellsX (.ms q r o l f)=some [.ms q r o l f]:=eqOf rfl
theorem cellsX_ptr {r i j:Nat}:cellsX (.ptr r i j)=some [.ptr r i j]:=eqOf rfl
theorem cellsX_slD:cellsX (slD k enc s)=some [slD k enc s]:=by
  rcases slD_isSl k enc s with ⟨h1,_⟩ | ⟨_,_,h1⟩ <;> rw [h1] <;> rfl
theorem fld2_some {q a:Nat} {l x:List D} (h1:q=x.length) (h2:a+q≤l.length):fld2 q a (some l) (some x)=some (overwrite x a l):=by
  show Bool.rec (motive:=fun _=>Option (List D)) none (some (overwrite x a l)) (Bool.and (Nat.beq q (lenL x)) (Nat.ble (a+q) (lenL l)))=_
  rw [lenL_eq,lenL_eq,h1,Nat.beq_refl,ble_iff,decide_eq_true (h1 ▸ h2)]
  rfl
theorem over_nil {a:Nat} {l:List D}:overwrite [] a l=l:=eqOf rfl
theorem over_cons {a:Nat} {d:D} {x l:List D}:overwrite (d::x) a l=overwrite x (a+1) (l.set a d):=by
  show overwrite x (a+1) (put l a d)=_
  rw [put_eq]
theorem buildD_some {l:List D}:buildD n h (some l) = .ok (.agg l) n h:=eqOf rfl
theorem one_int {q:IntKind} {a:Int}:one (.int q a)=true:=eqOf rfl
theorem one_bool {b:Bool}:one (.bool b)=true:=eqOf rfl
theorem one_str {l:List Nat}:one (.str l)=true:=eqOf rfl
theorem one_sl {q:Nat} {a b:List D} {f:Bool}:one (.sl q a b f)=true:=eqOf rfl
theorem one_nils:one .nils=true:=eqOf rfl
theorem one_ms {q r o l:Nat} {f:Bool}:one (.ms q r o l f)=true:=eqOf rfl
theorem one_ptr {r i j:Nat}:one (.ptr r i j)=true:=eqOf rfl
theorem one_fn {f:Nat} {a c:List D}:one (.fn f a c)=true:=eqOf rfl
theorem one_slD:one (slD k enc s)=true:=by
  rcases slD_isSl k enc s with ⟨h1,_⟩ | ⟨_,_,h1⟩ <;> rw [h1] <;> rfl
theorem clo_slD {f:Nat}:clo (f+1) (slD k enc s)=true:=by
  rcases slD_isSl k enc s with ⟨h1,_⟩ | ⟨_,_,h1⟩ <;> rw [h1] <;> rfl
theorem len_ms {q r o m:Nat} {f:Bool}:lenD n h .slice (.ms q r o m f) = .ok (.int .i64 (m:Int)) n h:=eqOf rfl
theorem len_nils:lenD n h .slice .nils = .ok (.int .i64 0) n h:=eqOf rfl
theorem app_el {l:List α} : (Sl.app l).el=l:=eqOf rfl
theorem app_sp {l:List α} : (Sl.app l).sp=[]:=eqOf rfl
theorem Bld.cons {n0 m q:Nat} {l:List α} {d:D} {o:Ob} (hB:Bld k enc n0 l h d) (hg:GoodAt m h) (hq:m≤q):Bld k enc n0 l ((q,o)::h) d:=by
  rcases hB with hB | ⟨r,q1,q2,q3,q4⟩
  · exact .inl hB
  · have:=getO_low hg (show getO h r ≠ .none by rw [q4]; exact fun h=>by cases h)
    exact .inr ⟨r,q1,q2,q3,by rw [getO_tl (by omega)]; exact q4⟩
theorem Bld.new {n0 q:Nat} {l:List α} {x:α} (hq:n0≤q):Bld k enc n0 (l++[x]) ((q,.row k (l.map enc++[enc x]))::h) (.ms k q 0 (l.length+1) false) :=
  .inr ⟨q,by simp,hq,by rw [List.length_append]; rfl,by rw [getO_hd,List.map_append]; rfl⟩
theorem lowO_map {m:Nat} {l:List α} (he:∀ x,low m (enc x)):lowO m (.row k (l.map enc)):=lowO_row (fun d hd=>by
  obtain ⟨x,_,rfl⟩:=List.mem_map.1 hd
  exact he x)
theorem finish_bld {n0:Nat} {h0:Hps} {l:List α} {d:D} (he:ElemOk k enc) (hB:Bld k enc n0 l h d) (H:Hp n0 h0 n h):finishD n0 n h d = .ok (slD k enc (Sl.app l)) n0 h0:=by
  rw [finishD_fz (Fz.bld he hB) (by omega) H.leak,H.drop]
theorem finish_flat {n0:Nat} {h0:Hps} {d:D} (hd:flat d=true) (H:Hp n0 h0 n h):finishD n0 n h d = .ok d n0 h0:=by
  rw [finishD_flat hd H.leak,H.drop]
end
end Go.Proofs.Ytpbpmpabndgeeaa
