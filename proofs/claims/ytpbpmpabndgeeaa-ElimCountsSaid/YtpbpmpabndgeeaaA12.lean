/- Each operation, run. Tenth part: append. No condition. -/
import Derived.Test.YtpbpmpabndgeeaaA10
import Derived.Deep.AppendSrc
import Derived.Laws.IdiomStrings
import Derived.Laws.BytesArg

/- Each operation,run. Ninth part: append. No condition. -/
set_option linter.unusedSimpArgs false
set_option linter.unusedVariables false
namespace Go.Proofs.Ytpbpmpabndgeeaa
open Go

section
variable {P:Program} {RC:Nat→Code→DCode→Prop} {Fb:Nat→Prop} {β:Nat→Bk} {U:Us} {N:Nat} {h:Hps} {w:World}

theorem SlV.flat {M:Nat→Prop} {v:Value} {k:Nat} {l:List D} (hk:0 < k) (S:SlV w M β U v k l) (hn:l≠[]) :
    ∃ (a:Addr) (c:Nat) (us:List Value),v = .slice (some a) l.length c∧l.length≤c∧us.length=l.length*k ∧ (∀ j u,us[j]? = some u→w.cell? (a.add j)=some u) ∧ (∀ u,u∈us→u.oneCell'=true) ∧
      (∀ e,e∈l → (cells e).length=k)∧∀ i,i < l.length→∀ j,j < k→Rep w M β U (us.getD (i*k+j) undef) ((cells (l.getD i .junk)).getD j .junk):=by
  rcases S with ⟨_,h1⟩ | ⟨a,c,rfl,hc,hke,_,vs,hv⟩
  · exact absurd h1 hn
  · have hdm:∀ x,x < l.length*k→x / k < l.length∧x % k < k∧x / k*k+x % k=x:=fun x hx =>
      ⟨(Nat.div_lt_iff_lt_mul hk).2 hx,Nat.mod_lt _ hk,by rw [Nat.mul_comm]; exact Nat.div_add_mod x k⟩
    refine ⟨a,c,(List.range (l.length*k)).map fun x=>vs (x / k) (x % k),rfl,hc,by simp,fun j u hu=>?_,fun u hu=>?_,hke,fun i hi j hj=>?_⟩
    · rw [List.getElem?_map] at hu
      by_cases hj:j < l.length*k
      · rw [List.getElem?_range hj] at hu
        simp only [Option.map_some,Option.some.injEq] at hu
        subst hu
        obtain ⟨h1,h2,h3⟩:=hdm j hj
        have := (hv _ h1 _ h2).1
        rw [h3] at this
        exact this
      · rw [List.getElem?_eq_none (by simp; omega)] at hu
        cases hu
    · rw [List.mem_map] at hu
      obtain ⟨x,hx,rfl⟩:=hu
      rw [List.mem_range] at hx
      obtain ⟨h1,h2,_⟩:=hdm x hx
      exact (hv _ h1 _ h2).2.1
    · have hlt:i*k+j < l.length*k:=by
        have : (i+1)*k≤l.length*k:=Nat.mul_le_mul_right _ (by omega)
        rw [Nat.add_mul,Nat.one_mul] at this
        omega
      have e1 : (i*k+j) / k=i:=by rw [Nat.mul_comm,Nat.mul_add_div hk,Nat.div_eq_of_lt hj,Nat.add_zero]
      have e2 : (i*k+j) % k=j:=by rw [Nat.mul_comm,Nat.mul_add_mod,Nat.mod_eq_of_lt hj]
      have : ((List.range (l.length*k)).map fun x=>vs (x / k) (x % k)).getD (i*k+j) undef=vs i j:=by
        rw [List.getD_eq_getElem?_getD,List.getElem?_map,List.getElem?_range hlt]
        simp [e1,e2]
      rw [this]
      exact (hv i hi j hj).2.2

theorem Grew.drewAlloc (w:World) (o:Obj):Grew w (w.drew.alloc o) o:=⟨rfl,rfl,rfl,rfl⟩

theorem block_getD {olds news zs:List Value} {x:Nat} (hx:x < olds.length+news.length) :
    (olds.toArray++news.toArray++zs.toArray).getD x undef=if x < olds.length then olds.getD x undef else news.getD (x - olds.length) undef:=by
  have : (olds.toArray++news.toArray++zs.toArray) = (olds++news++zs).toArray:=by simp
  rw [this,getD_toArray]
  simp only [List.getD_eq_getElem?_getD]
  rw [List.getElem?_append_left (by rw [List.length_append]; omega)]
  split
  · rename_i h; rw [List.getElem?_append_left h]
  · rename_i h; rw [List.getElem?_append_right (by omega)]

theorem grown_ok (I:Inv RC β U Fb h w) (hN:¬ U N) {e:TypeId} {k:Nat} (hk:0 < k) {z:Value} (hz:z.cells.size=k) {l m:List D} {olds news:List Value} (ho:olds.length=l.length*k) (hn:news.length=m.length*k) (h1:∀ u,u∈olds→u.oneCell'=true) (h2:∀ u,u∈news→u.oneCell'=true)
    (hkl:∀ e,e∈l → (cells e).length=k) (hkm:∀ e,e∈m → (cells e).length=k) (hrl:∀ i,i < l.length→∀ j,j < k→Rep w (Mk β Fb h) β U (olds.getD (i*k+j) undef) ((cells (l.getD i .junk)).getD j .junk))
    (hrm:∀ i,i < m.length→∀ j,j < k→Rep w (Mk β Fb h) β U (news.getD (i*k+j) undef) ((cells (m.getD i .junk)).getD j .junk)) (cap:Nat) (hcap:l.length+m.length≤cap) (hcm:cap≤maxLen) :
    let w':=w.drew.alloc (.cells (olds.toArray++news.toArray++Builtin.zeroCells z.cells (cap - (l.length+m.length))) e)
    let β':=upd β N ⟨w.heap.size,k,cap*k⟩
    let h' := (N,Ob.row k (l++m))::h
    Rep w' (Mk β' Fb h') β' (Ad U N) (.slice (some ⟨w.heap.size,0,none⟩) (l.length+m.length) cap) (.ms k N 0 (l.length+m.length) false)∧Inv RC β' (Ad U N) Fb h' w'∧Adv β U h w β' (Ad U N) h' w':=by
  intro w' β' h'
  have g:Grew w w' (.cells (olds.toArray++news.toArray++Builtin.zeroCells z.cells (cap - (l.length+m.length))) e (0,0)):=Grew.drewAlloc _ _
  refine row_ok I hN (.inl rfl) g (k:=k) (C:=cap*k) (l:=l++m) ?_ ?_ (fun e he=>?_) (fun i hi j hj=>?_) (l.length+m.length) cap false (by rw [List.length_append]) hcap (fun e=>by cases e) (fun _=>rfl) (Nat.le_refl _) hcm
  · simp only [Array.size_append,List.size_toArray,size_zeroCells,ho,hn,hz,← Nat.add_mul]
    congr 1
    omega
  · rw [List.length_append]; exact Nat.mul_le_mul_right _ hcap
  · rcases List.mem_append.1 he with he | he
    · exact hkl e he
    · exact hkm e he
  · rw [List.length_append] at hi
    have hb:i*k+j < olds.length+news.length:=by
      rw [ho,hn,← Nat.add_mul]
      have : (i+1)*k ≤ (l.length+m.length)*k:=Nat.mul_le_mul_right _ (by omega)
      rw [Nat.add_mul,Nat.one_mul] at this
      omega
    have hz':Builtin.zeroCells z.cells (cap - (l.length+m.length)) = (Builtin.zeroCells z.cells (cap - (l.length+m.length))).toList.toArray:=by simp
    rw [hz',block_getD hb]
    by_cases hil:i < l.length
    · have:i*k+j < olds.length:=by
        rw [ho]
        have : (i+1)*k≤l.length*k:=Nat.mul_le_mul_right _ hil
        rw [Nat.add_mul,Nat.one_mul] at this
        omega
      rw [if_pos this,getD_append_l hil]
      refine ⟨h1 _ ?_,hrl i hil j hj⟩
      rw [List.getD_eq_getElem?_getD,List.getElem?_eq_getElem this]
      exact List.getElem_mem this
    · have:¬ i*k+j < olds.length:=by
        rw [ho]
        have:l.length*k≤i*k:=Nat.mul_le_mul_right _ (by omega)
        omega
      have e1:i*k+j - olds.length = (i - l.length)*k+j:=by
        rw [ho,Nat.sub_mul]
        have:l.length*k≤i*k:=Nat.mul_le_mul_right _ (by omega)
        omega
      have e2 : (l++m).getD i .junk=m.getD (i - l.length) .junk:=by
        have:=getD_append_r (l:=l) (m:=m) (i:=i - l.length)
        rwa [show l.length + (i - l.length)=i from by omega] at this
      rw [if_neg this,e1,e2]
      have hlt : (i - l.length)*k+j < news.length:=by
        rw [hn]
        have : (i - l.length+1)*k≤m.length*k:=Nat.mul_le_mul_right _ (by omega)
        rw [Nat.add_mul,Nat.one_mul] at this
        omega
      refine ⟨h2 _ ?_,hrm (i - l.length) (by omega) j hj⟩
      rw [List.getD_eq_getElem?_getD,List.getElem?_eq_getElem hlt]
      exact List.getElem_mem hlt

theorem getO_del_none {h:Hps} {r q:Nat} (hq:getO (delO h r) q ≠ .none):q≠r∧getO (delO h r) q=getO h q:=by
  rw [getO_delO] at hq ⊢
  by_cases e:q=r
  · rw [if_pos e] at hq; exact absurd rfl hq
  · rw [if_neg e]; exact ⟨e,rfl⟩
theorem Tk_del {h:Hps} {r b:Nat} (ht:Tk β (delO h r) b):Tk β h b:=by
  obtain ⟨q,hq,e⟩:=ht
  obtain ⟨_,h2⟩:=getO_del_none hq
  exact ⟨q,h2 ▸ hq,e⟩
theorem Adv.del (r:Nat):Adv β U h w β U (delO h r) w :=
  ⟨rfl,rfl,rfl,Nat.le_refl _,Sub.refl _,fun _ _=>rfl,fun _ _ _=>rfl,fun _ _ ht=>Tk_del ht⟩
theorem Inv.del (I:Inv RC β U Fb h w) (r:Nat):Inv RC β U Fb (delO h r) w :=
  I.step RC (Adv.del r) (fun q hq => .inl ⟨(getO_del_none hq).2,rfl⟩) (fun q q' hq hq' e=>I.inj q q' ((getO_del_none hq).2 ▸ hq) ((getO_del_none hq').2 ▸ hq') e) (fun b hb ht => (I.frm b hb).2 (Tk_del ht))

end
end Go.Proofs.Ytpbpmpabndgeeaa

/- Each operation,run. Tenth part: append. No condition. -/
namespace Go.Proofs.Ytpbpmpabndgeeaa
open Go

section
variable {P:Program} {RC:Nat→Code→DCode→Prop} {Fb:Nat→Prop} {β:Nat→Bk} {U:Us} {N:Nat} {h:Hps} {w:World}

theorem Adv.rename (I:Inv RC β U Fb h w) (hN:¬ U N) {r:Nat} (hp:getO h r ≠ .none) (x:Ob) {w':World} (ho:w'.os=w.os) (ht:w'.tape=w.tape) (hu:w'.output=w.output) (hs:w'.heap.size=w.heap.size)
    (hk:∀ b,b ≠ (β r).b→w'.heap[b]? = w.heap[b]?):Adv β U h w (upd β N (β r)) (Ad U N) ((N,x)::delO h r) w':=by
  refine ⟨ho,ht,hu,Nat.le_of_eq hs.symm,Sub.ad _ _,fun q hq=>upd_ne _ _ (fun e=>hN (e ▸ hq)),fun b hb hn=>hk b (fun e=>hn ⟨r,hp,e.symm⟩),fun b hb htk=>?_⟩
  obtain ⟨q,hq,e⟩:=htk
  rw [getO_cons] at hq
  by_cases hqn:N=q
  · subst hqn
    rw [upd_same] at e
    exact ⟨r,hp,e⟩
  · rw [if_neg hqn] at hq
    rw [upd_ne _ _ (fun h=>hqn h.symm)] at e
    exact Tk_del ⟨q,hq,e⟩
theorem Inv.rename (I:Inv RC β U Fb h w) (hN:¬ U N) {r:Nat} (hp:getO h r ≠ .none) (x:Ob) {w':World} (ho:w'.os=w.os) (ht:w'.tape=w.tape) (hu:w'.output=w.output) (hs:w'.heap.size=w.heap.size)
    (hk:∀ b,b ≠ (β r).b→w'.heap[b]? = w.heap[b]?) (hx:ObOk RC w' (Mk (upd β N (β r)) Fb ((N,x)::delO h r)) (upd β N (β r)) (Ad U N) x (β r)) :
    Inv RC (upd β N (β r)) (Ad U N) Fb ((N,x)::delO h r) w':=by
  have hlt:∀ q,q≠N→getO ((N,x)::delO h r) q ≠ .none→q≠r∧getO ((N,x)::delO h r) q=getO h q ∧ (upd β N (β r)) q=β q:=by
    intro q hq hg
    rw [getO_cons,if_neg (fun e=>hq e.symm)] at hg ⊢
    exact ⟨(getO_del_none hg).1,(getO_del_none hg).2,upd_ne _ _ hq⟩
  have hadv:=Adv.rename I hN hp x ho ht hu hs hk
  refine I.step RC hadv (fun q hq=>?_) (fun q q' hq hq' e=>?_) (fun b hb htk=>?_)
  · by_cases e:q=N
    · subst e
      refine .inr ⟨.inr rfl,?_,?_⟩
      · rw [upd_same,hs]; exact I.lt r hp
      · rw [upd_same,getO_cons,if_pos rfl]; exact hx
    · obtain ⟨h1,h2,_⟩:=hlt q e hq
      exact .inl ⟨h2,hk _ (fun e2=>h1 (I.inj q r (h2 ▸ hq) hp e2))⟩
  · by_cases e1:q=N
    · by_cases e2:q'=N
      · rw [e1,e2]
      · obtain ⟨h1,h2,h3⟩:=hlt q' e2 hq'
        rw [e1,upd_same,h3] at e
        exact absurd (I.inj r q' hp (h2 ▸ hq') e).symm h1
    · obtain ⟨h1,h2,h3⟩:=hlt q e1 hq
      by_cases e2:q'=N
      · rw [e2,upd_same,h3] at e
        exact absurd (I.inj q r (h2 ▸ hq) hp e) h1
      · obtain ⟨h4,h5,h6⟩:=hlt q' e2 hq'
        rw [h3,h6] at e
        exact I.inj q q' (h2 ▸ hq) (h5 ▸ hq') e
  · exact (I.frm b hb).2 (hadv.shr b (I.frm b hb).1 htk)

theorem run_append_emptyS {t tx ty e:TypeId} {ti:TypeInfo} (hu:P.underlying t=some (.slice e)) (hi:P.info? e=some ti) {base:Option Addr} {n c:Nat} (hn:n≤c) {vx:Value} (hs:Src P ti.size tx vx 0 [] w) :
    (Builtin.append_ #[t,tx] ty #[.slice base n c,vx]).run P w = .ok (.slice base n c) w:=by
  rcases hs.kind with ⟨e',hk⟩ | hk <;> cases base <;> simp [Builtin.append_,run_underlying hu,run_underlying hk,sizeOf,typeInfo,hi,hs.len,hn,hs.cells,storeCells]
theorem run_append_roomS {news:List Value} (t tx ty e T:TypeId) (i:TypeInfo) (ht:P.underlying t=some (.slice e)) (hi:P.info? e=some i)
    (g sLen sCap:Nat) (cur:Array Value) (fz:Nat×Nat) (hg:w.heap[g]? = some (.cells cur T fz)) (hfz:fz = (0,0)∨cur.size≤fz.1) (x:Value) (m:Nat) (hs:Src P i.size tx x m news w)
    (hroom:sLen+m≤sCap) (hfit:sLen*i.size+news.length≤cur.size) :
    (Builtin.append_ #[t,tx] ty #[.slice (some ⟨g,0,none⟩) sLen sCap,x]).run P w =
      .ok (.slice (some ⟨g,0,none⟩) (sLen+m) sCap) (w.setRow g (cur.toList.take (sLen*i.size)++news++cur.toList.drop (sLen*i.size+news.length)).toArray):=by
  have hst:=run_storeCells_atZ P g (sLen*i.size) T fz news 0 cur w hg hfz (by simpa using hfit) hs.one
  simp only [Nat.add_zero] at hst
  rcases hs.kind with ⟨e',hk⟩ | hk <;> simp [Builtin.append_,run_underlying ht,run_underlying hk,sizeOf,typeInfo,hi,hs.len,hroom,hs.cells,Addr.add_lit,hst]
theorem run_append_growS {olds news:List Value} (t tx ty e:TypeId) (i:TypeInfo) (z:Value) (ht:P.underlying t=some (.slice e)) (hi:P.info? e=some i) (hz:i.zero=some z) (base:Option Addr) (sLen sCap:Nat)
    (hold : (Builtin.firstCells i.size sLen (.slice base sLen sCap)).run P w.drew = .ok olds.toArray w.drew) (x:Value) (n:Nat) (hs:Src P i.size tx x n news w)
    (hg:sCap < sLen+n) (h63 : ((sLen+n:Nat):Int)≤9223372036854775807) (hfit:Builtin.nextslicecap (sLen+n) sCap*i.bytes≤281474976710656) :
    (Builtin.append_ #[t,tx] ty #[.slice base sLen sCap,x]).run P w =
      .ok (.slice (some ⟨w.heap.size,0,none⟩) (sLen+n) (grownCap w (sLen+n) sCap e))
        (w.drew.alloc (.cells (olds.toArray++news.toArray++Builtin.zeroCells z.cells (grownCap w (sLen+n) sCap e - (sLen+n))) e)):=by
  rw [run_append_grow_src w t tx ty e i z ht hi hz base sLen sCap olds hold x n news hs hg h63 hfit]
  simp
def SrcV (P:Program) (w:World) (M:Nat→Prop) (β:Nat→Bk) (U:Us) (tx:TypeId) (v:Value) (k:Nat) (l:List D):Prop :=
  ∃ news,Src P k tx v l.length news w ∧ (∀ e,e∈l → (cells e).length=k)∧∀ i,i < l.length→∀ j,j < k→Rep w M β U (news.getD (i*k+j) undef) ((cells (l.getD i .junk)).getD j .junk)
theorem SlV.src {M:Nat→Prop} {v:Value} {k:Nat} {l:List D} {tx e':TypeId} (hu:P.underlying tx=some (.slice e')) (hk:0 < k) (S:SlV w M β U v k l):SrcV P w M β U tx v k l:=by
  by_cases hn:l=[]
  · subst hn
    rcases S with ⟨rfl,_⟩ | ⟨a,c,rfl,_⟩
    · exact ⟨[],Src.ofNil w hu 0,(fun e he=>by cases he),fun i hi=>absurd hi (Nat.not_lt_zero _)⟩
    · exact ⟨[],Src.ofSlice w hu a 0 c [] (by simp) (fun j u h=>by simp at h) (fun u h=>by cases h),(fun e he=>by cases he),fun i hi=>absurd hi (Nat.not_lt_zero _)⟩
  · obtain ⟨a,c,us,rfl,_,h2,h3,h4,h5,h6⟩:=S.flat hk hn
    exact ⟨us,Src.ofSlice w hu a l.length c us h2 h3 h4,h5,h6⟩
theorem strL_len (s:List Nat) : (strL s).length=s.length:=by
  induction s with
  | nil=>rfl
  | cons c s ih=>exact congrArg Nat.succ ih
theorem strL_eq (s:List Nat):strL s=s.map fun c => .int .u8 (.ofNat c):=by
  induction s with
  | nil=>rfl
  | cons c s ih=>exact congrArg _ ih
theorem str_src {M:Nat→Prop} {s:ByteArray} {tx:TypeId} (hu:P.underlying tx=some .string):SrcV P w M β U tx (.string s) 1 (strL (sb s)):=by
  have hl : (strL (sb s)).length=s.size:=by rw [strL_len,sb_len]
  refine ⟨byteCells s,by rw [hl]; exact Src.ofString w hu s,fun e he=>?_,fun i hi j hj=>?_⟩
  · rw [strL_eq] at he
    obtain ⟨c,_,rfl⟩:=List.mem_map.1 he
    rfl
  · obtain rfl:j=0:=by omega
    rw [hl] at hi
    have hi':i < (sb s).length:=by rw [sb_len]; exact hi
    have hi3:i < s.data.size:=hi
    have hi2:i < s.data.toList.length:=by rw [Array.length_toList]; exact hi3
    have e1 : (strL (sb s)).getD i .junk = .int .u8 (.ofNat (s.data.toList[i]).toNat):=by
      rw [strL_eq,List.getD_eq_getElem?_getD,List.getElem?_map]
      simp [sb]
      rw [Array.getElem?_eq_getElem hi3]
      rfl
    have e2 : (byteCells s).getD (i*1+0) undef = .int .u8 ((s.data.toList[i]).toNat:Int):=by
      rw [Nat.mul_one,Nat.add_zero,List.getD_eq_getElem?_getD]
      unfold byteCells
      rw [List.getElem?_map]
      simp
      rw [Array.getElem?_eq_getElem hi3]
      rfl
    rw [e1,e2]
    exact .int
theorem appN1_inv {n k bytes:Nat} {h h':Hps} {xs:List D} {d:D} {n':Nat} (e:appN1 n h k bytes xs = .ok d n' h'):xs.length*bytes≤most∧d = .ms k n 0 xs.length false∧h' = (n,.row k xs)::h:=by
  obtain ⟨h1,h2⟩:=ifR_inv (show ifR (Nat.ble (lenL xs*bytes) most) (.ok (.ms k n 0 (lenL xs) false) n ((n,.row k xs)::h))=_ from e)
  have h1:=ble_le h1
  cases h2
  rw [lenL_eq] at *
  exact ⟨h1,rfl,rfl⟩

theorem app_fresh (I:Inv RC β U Fb h w) (hN:¬ U N) {t ty e:TypeId} {ti:TypeInfo} {z:Value} (hu:P.underlying t=some (.slice e)) (hi:P.info? e=some ti) (hz:ti.zero=some z) (hzk:z.cells.size=ti.size) (hk:0 < ti.size) (hb:0 < ti.bytes)
    {tx:TypeId} {vs vx:Value} {l xs:List D} {hh:Hps} (hdel:∀ {β' w'},Inv RC β' (Ad U N) Fb ((N,Ob.row ti.size (l++xs))::h) w'∧Adv β U h w β' (Ad U N) ((N,Ob.row ti.size (l++xs))::h) w' →
      Inv RC β' (Ad U N) Fb hh w'∧Adv β U h w β' (Ad U N) hh w'∧∀ {v d},Rep w' (Mk β' Fb ((N,Ob.row ti.size (l++xs))::h)) β' (Ad U N) v d→Rep w' (Mk β' Fb hh) β' (Ad U N) v d)
    (Sl:SlV w (Mk β Fb h) β U vs ti.size l) (hcap:∀ a n c,vs = .slice (some a) n c→c < l.length+xs.length) (Sx:SrcV P w (Mk β Fb h) β U tx vx ti.size xs) (hne:xs≠[]) (hbytes : (l.length+xs.length)*ti.bytes≤most) :
    ∃ v w' β',(Builtin.append_ #[t,tx] ty #[vs,vx]).run P w = .ok v w'∧Rep w' (Mk β' Fb hh) β' (Ad U N) v (.ms ti.size N 0 (l.length+xs.length) false)∧Inv RC β' (Ad U N) Fb hh w'∧Adv β U h w β' (Ad U N) hh w':=by
  have hmx:l.length+xs.length≤140737488355328:=Nat.le_trans (Nat.le_mul_of_pos_right _ hb) hbytes
  unfold most at hbytes
  obtain ⟨news,hsrc,hkx,hrx⟩:=Sx
  have hnl:=hsrc.newsLen
  have hn1:=hsrc.one
  have hpos:0 < xs.length:=List.length_pos_iff.2 hne
  have hmax:∀ old,grownCap w (l.length+xs.length) old e≤maxLen:=fun old=>grownCap_le_maxLen w _ old e (by unfold maxLen; omega)
  rcases Sl with ⟨rfl,rfl⟩ | ⟨a,c,rfl,hc,hke,hsp,us,hus⟩
  · have hr:=run_append_growS (P:=P) (w:=w) (olds:=[]) t tx ty e ti z hu hi hz none 0 0 (run_firstCells_none _ _ _ _ _) vx xs.length hsrc (by omega) (by omega) (growslice_fits (by omega) (by simpa using hbytes))
    have hG:=grown_ok I hN (e:=e) (k:=ti.size) hk hzk (l:=[]) (m:=xs) (olds:=[]) (news:=news) (by simp) hnl (by simp) hn1 (by simp) hkx (by simp) hrx (grownCap w xs.length 0 e) (by rw [List.length_nil,Nat.zero_add]; exact grownCap_ge w _ _ _)
      (by have:=hmax 0; rwa [List.length_nil,Nat.zero_add] at this)
    simp only [List.length_nil,Nat.zero_add,List.nil_append,Array.empty_append] at hG hdel hr ⊢
    obtain ⟨h1,h2,h3⟩:=hdel hG.2
    exact ⟨_,_,_,hr,h3 hG.1,h1,h2⟩
  · have hcl:=hcap a l.length c rfl
    by_cases hl0:l=[]
    · subst hl0
      have hr:=run_append_growS (P:=P) (w:=w) (olds:=[]) t tx ty e ti z hu hi hz (some a) 0 c (run_firstCells_some w.drew ti.size 0 a 0 c [] (by simp) (by simp)) vx xs.length hsrc (by simpa using hcl) (by omega) (growslice_fits (by simpa using hcl) (by simpa using hbytes))
      have hG:=grown_ok I hN (e:=e) (k:=ti.size) hk hzk (l:=[]) (m:=xs) (olds:=[]) (news:=news) (by simp) hnl (by simp) hn1 (by simp) hkx (by simp) hrx (grownCap w xs.length c e) (by rw [List.length_nil,Nat.zero_add]; exact grownCap_ge w _ _ _)
        (by have:=hmax c; rwa [List.length_nil,Nat.zero_add] at this)
      simp only [List.length_nil,Nat.zero_add,List.nil_append,Array.empty_append] at hG hdel hr ⊢
      obtain ⟨h1,h2,h3⟩:=hdel hG.2
      exact ⟨_,_,_,hr,h3 hG.1,h1,h2⟩
    · obtain ⟨a2,c2,olds,e1,_,hol,hoc,ho1,hkl,hrl⟩:=SlV.flat hk (.inr ⟨a,c,rfl,hc,hke,hsp,us,hus⟩:SlV w (Mk β Fb h) β U (.slice (some a) l.length c) ti.size l) hl0
      cases e1
      have hr:=run_append_growS (P:=P) (w:=w) (olds:=olds) t tx ty e ti z hu hi hz (some a) l.length c (run_firstCells_some w.drew ti.size l.length a l.length c olds hol (by simpa using hoc)) vx xs.length hsrc hcl (by omega) (growslice_fits hcl hbytes)
      have hG:=grown_ok I hN (e:=e) (k:=ti.size) hk hzk (l:=l) (m:=xs) (olds:=olds) (news:=news) hol hnl ho1 hn1 hkl hkx hrl hrx (grownCap w (l.length+xs.length) c e) (grownCap_ge w _ _ _) (hmax c)
      obtain ⟨h1,h2,h3⟩:=hdel hG.2
      exact ⟨_,_,_,hr,h3 hG.1,h1,h2⟩

theorem Tk_ext {β':Nat→Bk} {h1 h2:Hps} (e:∀ q,getO h1 q=getO h2 q) (b:Nat):Tk β' h1 b↔Tk β' h2 b :=
  ⟨fun ⟨q,h,x⟩=>⟨q,e q ▸ h,x⟩,fun ⟨q,h,x⟩=>⟨q,(e q).symm ▸ h,x⟩⟩
theorem Adv.ext {β':Nat→Bk} {U':Us} {h1 h2:Hps} {w':World} (e:∀ q,getO h1 q=getO h2 q):Adv β' U' h1 w' β' U' h2 w' :=
  ⟨rfl,rfl,rfl,Nat.le_refl _,Sub.refl _,fun _ _=>rfl,fun _ _ _=>rfl,fun b _ ht => (Tk_ext e b).2 ht⟩
theorem Inv.ext {β':Nat→Bk} {U':Us} {h1 h2:Hps} {w':World} (e:∀ q,getO h1 q=getO h2 q) (I:Inv RC β' U' Fb h1 w'):Inv RC β' U' Fb h2 w' :=
  I.step RC (Adv.ext e) (fun q _ => .inl ⟨(e q).symm,rfl⟩) (fun q q' hq hq' x=>I.inj q q' ((e q).symm ▸ hq) ((e q').symm ▸ hq') x) (fun b hb ht => (I.frm b hb).2 ((Tk_ext e b).2 ht))
theorem same_del {β':Nat→Bk} {U':Us} {r:Nat} {h1 h2:Hps} {w':World} (e:∀ q,getO h2 q=getO (delO h1 r) q) (I:Inv RC β' U' Fb h1 w') (A:Adv β U h w β' U' (delO h1 r) w') :
    Inv RC β' U' Fb h2 w'∧Adv β U h w β' U' h2 w'∧∀ {v d},Rep w' (Mk β' Fb h1) β' U' v d→Rep w' (Mk β' Fb h2) β' U' v d:=by
  have a1:Adv β' U' h1 w' β' U' h2 w' := (Adv.del r).trans (Adv.ext fun q => (e q).symm)
  exact ⟨(I.del r).ext fun q => (e q).symm,A.trans (Adv.ext fun q => (e q).symm),fun hr=>hr.adv a1 (Sub.refl _) _ (Sub.refl _)⟩

theorem appW_ok (I:Inv RC β U Fb h w) (hN:¬ U N) {t ty e:TypeId} {ti:TypeInfo} {z:Value} (hu:P.underlying t=some (.slice e)) (hi:P.info? e=some ti) (hz:ti.zero=some z) (hzk:z.cells.size=ti.size) (hk:0 < ti.size) (hb:0 < ti.bytes)
    {tx:TypeId} {vs vx:Value} {s d:D} {xs:List D} {n':Nat} {h':Hps} (hs:Rep w (Mk β Fb h) β U vs s) (Sx:SrcV P w (Mk β Fb h) β U tx vx ti.size xs) (hd2:appW N h ti.size ti.bytes s xs = .ok d n' h') :
    ∃ v w' β',(Builtin.append_ #[t,tx] ty #[vs,vx]).run P w = .ok v w'∧Rep w' (Mk β' Fb h') β' (Ad U N) v d∧Inv RC β' (Ad U N) Fb h' w'∧Adv β U h w β' (Ad U N) h' w':=by
  · have plain:∀ {β' w'},Inv RC β' (Ad U N) Fb h' w'∧Adv β U h w β' (Ad U N) h' w'→Inv RC β' (Ad U N) Fb h' w'∧Adv β U h w β' (Ad U N) h' w'∧∀ {v d},Rep w' (Mk β' Fb h') β' (Ad U N) v d→Rep w' (Mk β' Fb h') β' (Ad U N) v d:=fun H=>⟨H.1,H.2,fun h=>h⟩
    cases xs with
    | nil =>
      obtain ⟨news,hsrc,_,_⟩:=Sx
      have hnews:news=[]:=List.eq_nil_of_length_eq_zero (by rw [hsrc.newsLen,List.length_nil,Nat.zero_mul])
      subst hnews
      have hd : (match s with | .junk=>Rd.bad | .nils => .ok .nils N h | .sl a b c d => .ok (.sl a b c d) N h | .ms a b c d e => .ok (.ms a b c d e) N h | _ => .bad) = .ok d n' h':=hd2
      have fin:∀ {base n c},vs = .slice base n c→n≤c→d=s→h'=h→∃ v w' β',(Builtin.append_ #[t,tx] ty #[vs,vx]).run P w = .ok v w'∧Rep w' (Mk β' Fb h') β' (Ad U N) v d∧Inv RC β' (Ad U N) Fb h' w'∧Adv β U h w β' (Ad U N) h' w':=by
        intro base n c h1 h2 h3 h4
        subst h1
        subst h3
        subst h4
        exact ⟨_,w,β,run_append_emptyS hu hi h2 hsrc,hs.adv (Adv.up (N:=N) I) (Sub.refl _) _ (Sub.ad _ _),I.up,Adv.up I⟩
      cases hs with
      | nils=>cases hd; exact fin rfl (Nat.le_refl _) rfl rfl
      | sl a b o c k es sp full vs ha hM hk hcap hf hc ho hr=>cases hd; exact fin rfl (by omega) rfl rfl
      | ms a off len c full hr ha hl hf hg hC hx=>cases hd; exact fin rfl hl rfl rfl
      | _=>cases hd
    | cons x0 xt =>
      have hne:x0::xt≠[]:=by simp
      have hd':appV N h ti.size ti.bytes (x0::xt) s = .ok d n' h':=hd2
      generalize x0::xt=xs at hd' Sx hne
      clear hd2
      cases hs with
      | nils =>
        obtain ⟨h1,rfl,rfl⟩:=appN1_inv (show appN1 N h ti.size ti.bytes xs = .ok d n' h' from hd')
        have:=app_fresh (ty:=ty) I hN hu hi hz hzk hk hb (l:=[]) (hh := (N,.row ti.size xs)::h) plain (.inl ⟨rfl,rfl⟩:SlV w (Mk β Fb h) β U (.slice none 0 0) ti.size []) (fun a n c e=>by cases e) Sx hne (by rwa [List.length_nil,Nat.zero_add])
        simpa using this
      | sl a b o c k es sp full vv ha hM hkk hcap hf hc ho hr =>
        obtain ⟨h2,h3⟩:=ifR_inv (show ifR (Bool.and full (Nat.beq ti.size k)) (appN1 N h ti.size ti.bytes (appL es xs)) = .ok d n' h' from hd')
        obtain ⟨h4,h5⟩:=and2 h2
        have h5:=beq_eq h5
        subst h5
        rw [appL_eq] at h3
        obtain ⟨h6,rfl,rfl⟩:=appN1_inv h3
        rw [List.length_append] at h6 ⊢
        have hrep:Rep w (Mk β Fb h) β U (.slice (some a) es.length c) (.sl ti.size es sp full):=Rep.sl a b o c ti.size es sp full vv ha hM hkk hcap hf hc ho hr
        have Sl:SlV w (Mk β Fb h) β U (.slice (some a) es.length c) ti.size es:=view_ok (k0:=ti.size) I hrep rfl
        have hfc:=hf h4
        have hpos:0 < xs.length:=List.length_pos_iff.2 hne
        exact app_fresh (ty:=ty) I hN hu hi hz hzk hk hb (l:=es) (hh := (N,.row ti.size (es++xs))::h) plain Sl (fun a n c' e=>by cases e; omega) Sx hne h6
      | @ms _ r a0 off len c full hr ha0 hl0 hf hg hC hcx =>
        obtain ⟨h2,h3⟩:=ifR_inv (show ifR (Nat.beq ti.size (β r).k) (appR N h ti.size ti.bytes r off len full xs (getO h r)) = .ok d n' h' from hd')
        have h2:=beq_eq h2
        cases hgo:getO h r with
        | row kk es =>
          rw [hgo] at h3
          have hkk : (β r).k=kk:=by have:=I.obj r; rw [hgo] at this; exact this.1
          have hrep:Rep w (Mk β Fb h) β U (.slice (some a0) len c) (.ms ti.size r off len full):=h2 ▸ Rep.ms a0 off len c full hr ha0 hl0 hf hg hC hcx
          have hp:getO h r ≠ .none:=by rw [hgo]; exact fun h=>by cases h
          have hpos:0 < xs.length:=List.length_pos_iff.2 hne
          cases full with
          | true =>
            obtain ⟨h4,h5⟩:=ifR_inv (show ifR (Nat.ble (off+len) (lenL es)) (appN1 N h ti.size ti.bytes (appL (takeL len (dropL off es)) xs)) = .ok d n' h' from h3)
            have h4:=ble_le h4
            rw [lenL_eq] at h4
            rw [appL_eq,takeL_eq,dropL_eq] at h5
            obtain ⟨h6,rfl,rfl⟩:=appN1_inv h5
            have hll : ((es.drop off).take len).length=len:=by simp; omega
            rw [List.length_append] at h6 ⊢
            have Sl:SlV w (Mk β Fb h) β U (.slice (some a0) len c) ti.size ((es.drop off).take len):=by
              refine view_ok (k0:=ti.size) I hrep ?_
              show viewR off len (getO h r)=_
              rw [hgo]
              show Bool.rec (motive:=fun _=>VL) .bad (.ok kk (takeL len (dropL off es))) (Nat.ble (off+len) (lenL es))=_
              rw [lenL_eq,ble_iff,decide_eq_true h4,takeL_eq,dropL_eq,h2,hkk]
            have hfc:=hf rfl
            exact app_fresh (ty:=ty) I hN hu hi hz hzk hk hb (l := (es.drop off).take len) (hh := (N,.row ti.size ((es.drop off).take len++xs))::h) plain Sl (fun a n c' e=>by cases e; omega) Sx hne h6
          | false =>
            obtain ⟨h4,h5⟩:=ifR_inv (show ifR (Bool.and (Nat.beq off 0) (Nat.beq len (lenL es))) (appR2 N h ti.size ti.bytes r es xs) = .ok d n' h' from h3)
            obtain ⟨h6,h7⟩:=and2 h4
            have h6:=beq_eq h6
            have h7:=beq_eq h7
            rw [lenL_eq] at h7
            subst h6
            subst h7
            obtain ⟨h8,h9⟩:=ifR_inv (show ifR (Nat.ble ((lenL es+lenL xs)*ti.bytes) most) (.ok (.ms ti.size N 0 (lenL es+lenL xs) false) N ((N,.row ti.size (appL es xs))::delO h r)) = .ok d n' h' from h5)
            have h8:=ble_le h8
            rw [lenL_eq,lenL_eq] at h8 h9
            rw [appL_eq] at h9
            cases h9
            have Sl:SlV w (Mk β Fb h) β U (.slice (some a0) es.length c) ti.size es:=by
              refine view_ok (k0:=ti.size) I hrep ?_
              show viewR 0 es.length (getO h r)=_
              rw [hgo]
              show Bool.rec (motive:=fun _=>VL) .bad (.ok kk (takeL es.length (dropL 0 es))) (Nat.ble (0+es.length) (lenL es))=_
              rw [lenL_eq,ble_iff,decide_eq_true (by omega),takeL_eq,dropL_eq,h2,hkk]
              simp
            by_cases hroom:es.length+xs.length≤c
            · -- there is room: the very block goes on
              obtain ⟨news,hsrc,hkx,hrx⟩:=Sx
              have hnl:=hsrc.newsLen
              have hn1:=hsrc.one
              have ho:=I.obj r
              rw [hgo] at ho
              obtain ⟨g1,g2,g3,cc,T,g4,g5,g6⟩:=ho
              have hcC:c*ti.size = (β r).C:=by
                have h10:=hg rfl
                rw [Nat.zero_add] at h10; rw [h2]; exact h10
              have ha:a0=⟨(β r).b,0,none⟩:=by
                rcases ha0 with e | ⟨_,e,_⟩
                · rw [e,Nat.zero_mul]
                · omega
              subst ha
              have hfit:es.length*ti.size+news.length≤cc.size:=by
                rw [hnl,← Nat.add_mul,g5,← hcC]; exact Nat.mul_le_mul_right _ hroom
              obtain ⟨fz,g4,hfz⟩:=g4
              have hrun:=run_append_roomS (P:=P) (w:=w) t tx ty e T ti hu hi (β r).b es.length c cc fz g4 hfz vx xs.length hsrc hroom hfit
              refine ⟨_,_,upd β N (β r),hrun,?_⟩
              have hother:∀ b,b ≠ (β r).b → (w.setRow (β r).b (cc.toList.take (es.length*ti.size)++news++cc.toList.drop (es.length*ti.size+news.length)).toArray).heap[b]? = w.heap[b]? := fun b hb=>setRow_other w _ _ _ hb
              have hself:=setRow_heap w (β r).b cc (cc.toList.take (es.length*ti.size)++news++cc.toList.drop (es.length*ti.size+news.length)).toArray T fz g4
              have hA:=Adv.rename I hN hp (.row ti.size (es++xs)) (w':=w.setRow (β r).b (cc.toList.take (es.length*ti.size)++news++cc.toList.drop (es.length*ti.size+news.length)).toArray) rfl rfl rfl (setRow_size _ _ _) hother
              refine ⟨?_,Inv.rename I hN hp (.row ti.size (es++xs)) rfl rfl rfl (setRow_size _ _ _) hother ⟨h2.symm,?_,?_,_,T,⟨fz,hself,?_⟩,?_,?_⟩,hA⟩
              · have hB:upd β N (β r) N=β r:=upd_same _ _ _
                have:=Rep.ms (w:=w.setRow (β r).b (cc.toList.take (es.length*ti.size)++news++cc.toList.drop (es.length*ti.size+news.length)).toArray) (M:=Mk (upd β N (β r)) Fb ((N,.row ti.size (es++xs))::delO h r)) (β:=upd β N (β r)) (N:=Ad U N) (r:=N) ⟨(β r).b,0,none⟩ 0 (es.length+xs.length) c false (.inr rfl)
                  (.inl (by rw [Nat.zero_mul,hB])) hroom (fun e=>by cases e) (fun _=>by rw [hB,Nat.zero_add,← h2]; exact hcC) (by rw [hB,Nat.zero_add,← h2]; exact Nat.le_of_eq hcC) hcx
                rw [hB,← h2] at this
                exact this
              · rw [List.length_append,← hcC]; exact Nat.mul_le_mul_right _ hroom
              · intro e0 he
                rcases List.mem_append.1 he with he | he
                · exact (g3 e0 he).trans (hkk.symm.trans h2.symm)
                · exact hkx e0 he
              · rcases hfz with e | e
                · exact .inl e
                · refine .inr ?_
                  simp only [List.size_toArray,List.length_append,List.length_take,List.length_drop,Array.length_toList]
                  omega
              · simp only [List.size_toArray,List.length_append,List.length_take,List.length_drop,Array.length_toList]
                omega
              · intro i hi' j hj
                have hsp:=getD_splice cc.toList news undef (es.length*ti.size) (i*ti.size+j) (by rw [Array.length_toList]; exact hfit)
                rw [getD_toArray,hsp]
                rw [List.length_append] at hi'
                by_cases hi2:i < es.length
                · have hlt:i*ti.size+j < es.length*ti.size:=by
                    have : (i+1)*ti.size≤es.length*ti.size:=Nat.mul_le_mul_right _ (by omega)
                    rw [Nat.add_mul,Nat.one_mul] at this
                    omega
                  rw [if_neg (by omega),getD_toList]
                  have h11:=g6 i hi2 j (by rw [← hkk,← h2]; exact hj)
                  rw [← hkk,← h2] at h11
                  refine ⟨h11.1,?_⟩
                  have : (es++xs).getD i .junk=es.getD i .junk:=by simp [List.getD_eq_getElem?_getD,List.getElem?_append_left hi2]
                  rw [this]
                  exact h11.2.adv hA (Sub.refl _) _ (Sub.ad _ _)
                · have hge:es.length*ti.size≤i*ti.size+j:=by
                    have:es.length*ti.size≤i*ti.size:=Nat.mul_le_mul_right _ (by omega)
                    omega
                  have hlt2 : (i - es.length)*ti.size+j < xs.length*ti.size:=by
                    have : (i - es.length+1)*ti.size≤xs.length*ti.size:=Nat.mul_le_mul_right _ (by omega)
                    rw [Nat.add_mul,Nat.one_mul] at this
                    omega
                  have hsub:i*ti.size+j - es.length*ti.size = (i - es.length)*ti.size+j:=by
                    rw [Nat.sub_mul]; have:es.length*ti.size≤i*ti.size:=Nat.mul_le_mul_right _ (by omega)
                    omega
                  rw [if_pos ⟨hge,by rw [hnl]; omega⟩,hsub]
                  have : (es++xs).getD i .junk=xs.getD (i - es.length) .junk:=by simp [List.getD_eq_getElem?_getD,List.getElem?_append_right (Nat.le_of_not_lt hi2)]
                  rw [this]
                  refine ⟨hn1 _ ?_,(hrx (i - es.length) (by omega) j hj).adv hA (Sub.refl _) _ (Sub.ad _ _)⟩
                  rw [List.getD_eq_getElem?_getD,List.getElem?_eq_getElem (by rw [hnl]; exact hlt2)]
                  exact List.getElem_mem _
            · have Nh:N≠r:=fun e=>hN (e ▸ hr)
              refine app_fresh (ty:=ty) I hN hu hi hz hzk hk hb (l:=es) (hh := (N,.row ti.size (es++xs))::delO h r) (fun {β' w'} H=>?_) Sl (fun a n c' e=>by cases e; omega) Sx hne h8
              have hdd:∀ q,getO ((N,Ob.row ti.size (es++xs))::delO h r) q=getO (delO ((N,Ob.row ti.size (es++xs))::h) r) q:=by
                intro q
                rw [getO_cons,getO_delO,getO_delO,getO_cons]
                by_cases e1:N=q
                · rw [if_pos e1,if_neg (fun e2=>Nh (e1.trans e2)),if_pos e1]
                · rw [if_neg e1,if_neg e1]
              exact same_del hdd H.1 (H.2.trans (Adv.del r))
        | none=>rw [hgo] at h3; cases h3
        | map es=>rw [hgo] at h3; cases h3
        | mit=>rw [hgo] at h3; cases h3
        | loop=>rw [hgo] at h3; cases h3
      | _=>cases hd'

theorem app_ok (I:Inv RC β U Fb h w) (hN:¬ U N) {t ty e:TypeId} {ti:TypeInfo} {z:Value} (hu:P.underlying t=some (.slice e)) (hi:P.info? e=some ti) (hz:ti.zero=some z) (hzk:z.cells.size=ti.size) (hk:0 < ti.size) (hb:0 < ti.bytes)
    {vs vx:Value} {s x d:D} {n':Nat} {h':Hps} (hs:Rep w (Mk β Fb h) β U vs s) (hx:Rep w (Mk β Fb h) β U vx x) (hd:appD N h ti.size ti.bytes s (view ti.size h x) = .ok d n' h') :
    ∃ v w' β',(Builtin.append_ #[t,t] ty #[vs,vx]).run P w = .ok v w'∧Rep w' (Mk β' Fb h') β' (Ad U N) v d∧Inv RC β' (Ad U N) Fb h' w'∧Adv β U h w β' (Ad U N) h' w':=by
  cases hv:view ti.size h x with
  | bad=>rw [hv] at hd; cases hd
  | ok k' xs =>
    rw [hv] at hd
    obtain ⟨h0,hd2⟩:=ifR_inv (show ifR (Nat.beq ti.size k') (appW N h ti.size ti.bytes s xs)=_ from hd)
    have h0:=beq_eq h0
    subst h0
    exact appW_ok (ty:=ty) I hN hu hi hz hzk hk hb hs ((view_ok I hx hv).src hu hk) hd2
theorem apps_ok (I:Inv RC β U Fb h w) (hN:¬ U N) {t tx ty e:TypeId} {ti:TypeInfo} {z:Value} (hu:P.underlying t=some (.slice e)) (hux:P.underlying tx=some .string) (hi:P.info? e=some ti) (hz:ti.zero=some z) (hzk:z.cells.size=ti.size) (hk:ti.size=1) (hb:ti.bytes=1)
    {vs vx:Value} {s x d:D} {n':Nat} {h':Hps} (hs:Rep w (Mk β Fb h) β U vs s) (hx:Rep w (Mk β Fb h) β U vx x) (hd:appsD N h s x = .ok d n' h') :
    ∃ v w' β',(Builtin.append_ #[t,tx] ty #[vs,vx]).run P w = .ok v w'∧Rep w' (Mk β' Fb h') β' (Ad U N) v d∧Inv RC β' (Ad U N) Fb h' w'∧Adv β U h w β' (Ad U N) h' w':=by
  cases hx with
  | str sx=>exact appW_ok (ty:=ty) I hN hu hi hz hzk (by omega) (by omega) hs (by rw [hk]; exact str_src hux) (by rw [hk,hb]; exact hd)
  | _=>cases hd
theorem isU8_inv {e:TypeId} (h:isU8 P e=true):P.underlying e=some (.int .u8):=by
  unfold isU8 at h
  split at h
  · rename_i h1; exact h1
  · cases h
theorem strL_at {s:ByteArray} {i:Nat} (hi:i < s.size) : (strL (sb s)).getD i .junk = .int .u8 (.ofNat (s.data.toList.getD i 0).toNat):=by
  have hi3:i < s.data.size:=hi
  have hi2:i < s.data.toList.length:=by rw [Array.length_toList]; exact hi3
  rw [strL_eq,List.getD_eq_getElem?_getD,List.getElem?_map,List.getD_eq_getElem?_getD,List.getElem?_eq_getElem hi2]
  simp [sb]
  rw [Array.getElem?_eq_getElem hi3]
  rfl
theorem bytesRow_at {s:ByteArray} {cap i:Nat} (hi:i < s.size) : (bytesRow s cap).getD i undef = .int .u8 ((s.data.toList.getD i 0).toNat:Int):=by
  have hi3:i < s.data.size:=hi
  have hi2:i < s.data.toList.length:=by rw [Array.length_toList]; exact hi3
  unfold bytesRow
  rw [Array.getD_eq_getD_getElem?,Array.getElem?_append_left (by simpa using hi3),Array.getElem?_map,List.getD_eq_getElem?_getD,List.getElem?_eq_getElem hi2,Array.getElem?_eq_getElem hi3]
  rfl
theorem cvb_ok (I:Inv RC β U Fb h w) (hN:¬ U N) {src dst e:TypeId} (hs:P.underlying src=some .string) (hd:P.underlying dst=some (.slice e)) (he:P.underlying e=some (.int .u8))
    {vx:Value} {x d:D} {n':Nat} {h':Hps} (hx:Rep w (Mk β Fb h) β U vx x) (hd2:cvbD N h x = .ok d n' h') :
    ∃ v w' β',(convert src dst vx).run P w = .ok v w'∧Rep w' (Mk β' Fb h') β' (Ad U N) v d∧Inv RC β' (Ad U N) Fb h' w'∧Adv β U h w β' (Ad U N) h' w':=by
  cases hx with
  | str s =>
    obtain ⟨h1,h2⟩:=ifR_inv (show ifR (Nat.ble (lenL (strL (sb s))) most) (.ok (.ms 1 N 0 (lenL (strL (sb s))) false) N ((N,.row 1 (strL (sb s)))::h)) = .ok d n' h' from hd2)
    have h1:=ble_le h1
    rw [lenL_eq] at h1 h2
    have hl : (strL (sb s)).length=s.size:=by rw [strL_len,sb_len]
    rw [hl] at h1
    cases h2
    have hrun:=run_bytes_of_string (P:=P) w src dst e s hs hd he
    have hge:=grownCap_ge w s.size 0 e
    have hmx:grownCap w s.size 0 e≤maxLen:=grownCap_le_maxLen w _ 0 e (by unfold most at h1; unfold maxLen; omega)
    have hsz : (bytesRow s (grownCap w s.size 0 e)).size=grownCap w s.size 0 e:=by
      unfold bytesRow
      simp only [Array.size_append,Array.size_map,Array.size_replicate]
      show s.size+_=_
      omega
    have hR:=row_ok (RC:=RC) I hN (.inr (Nat.le_refl _)) (Grew.drewAlloc w (.cells (bytesRow s (grownCap w s.size 0 e)) e ((bytesRow s (grownCap w s.size 0 e)).size,(bytesRow s (grownCap w s.size 0 e)).size+1))) (k:=1) (C:=grownCap w s.size 0 e) (l:=strL (sb s)) hsz (by omega) (fun e he=>by
        rw [strL_eq] at he
        obtain ⟨c,_,rfl⟩:=List.mem_map.1 he
        rfl)
      (fun i hi j hj=>by
        obtain rfl:j=0:=by omega
        rw [hl] at hi
        rw [Nat.mul_one,Nat.add_zero,bytesRow_at hi,strL_at hi]
        exact ⟨rfl,.int⟩) s.size (grownCap w s.size 0 e) false hl.symm hge (fun h=>by cases h) (fun _=>by omega) (by omega) hmx
    rw [hl]
    exact ⟨_,_,_,hrun,hR.1,hR.2.1,hR.2.2⟩
  | _=>cases hd2
theorem ofB (l:List Nat) (hl:∀ x,x∈l→x < 256):∃ s:ByteArray,sb s=l:=by
  refine ⟨⟨(l.map UInt8.ofNat).toArray⟩,?_⟩
  unfold sb
  simp only [List.map_map]
  conv=>rhs; rw [← List.map_id l]
  apply List.map_congr_left
  intro x hx
  simp [Nat.mod_eq_of_lt (hl x hx)]
theorem bytesL_inv:∀ {es:List D} {l:List Nat},bytesL es = .ok l→es=l.map (fun x => .int .u8 (.ofNat x))∧∀ x,x∈l→x < 256
  | [],_,h=>by cases h; exact ⟨rfl,fun x hx=>by cases hx⟩
  | d::es,l,h=>by
    replace h:byte1 d (bytesL es) = .ok l:=h
    cases d with
    | int k i =>
      cases i with
      | negSucc m=>cases h
      | ofNat m =>
        cases hb:bytesL es with
        | bad=>rw [hb] at h; cases h
        | ok l2 =>
          rw [hb] at h
          replace h:Bool.rec (motive:=fun _=>BL) .bad (.ok (m::l2)) (Bool.and (Nat.beq (kc k) 4) (Nat.blt m 256)) = .ok l:=h
          cases hc:Bool.and (Nat.beq (kc k) 4) (Nat.blt m 256) with
          | false=>rw [hc] at h; cases h
          | true =>
            rw [hc] at h
            cases h
            obtain ⟨h1,h2⟩:=and2 hc
            obtain ⟨h3,h4⟩:=bytesL_inv hb
            have hk:k = .u8:=by cases k <;> first | rfl | cases h1
            subst hk
            rw [blt_iff] at h2
            refine ⟨by rw [h3]; rfl,fun x hx=>?_⟩
            rcases List.mem_cons.1 hx with rfl | hx
            · exact of_decide_eq_true h2
            · exact h4 x hx
    | _=>cases h
theorem cbs_ok (I:Inv RC β U Fb h w) {src dst e:TypeId} (hs:P.underlying src=some (.slice e)) (hd:P.underlying dst=some .string) (he:P.underlying e=some (.int .u8))
    {vx:Value} {x d:D} {n':Nat} {h':Hps} (hx:Rep w (Mk β Fb h) β U vx x) (hd2:cbsD N h (view 1 h x) = .ok d n' h') :
    ∃ v,(convert src dst vx).run P w = .ok v w∧Rep w (Mk β Fb h) β U v d∧h'=h:=by
  cases hv:view 1 h x with
  | bad=>rw [hv] at hd2; cases hd2
  | ok k xs =>
    rw [hv] at hd2
    obtain ⟨h0,hd3⟩:=ifR_inv (show ifR (Nat.beq k 1) (cbsB N h (bytesL xs)) = .ok d n' h' from hd2)
    obtain rfl:=beq_eq h0
    cases hb:bytesL xs with
    | bad=>rw [hb] at hd3; cases hd3
    | ok l =>
      rw [hb] at hd3
      cases hd3
      obtain ⟨h1,h2⟩:=bytesL_inv hb
      obtain ⟨s,rfl⟩:=ofB l h2
      have hxl:xs.length=s.size:=by rw [h1,List.length_map,sb_len]
      rcases view_ok I hx hv with ⟨rfl,rfl⟩ | ⟨a,c,rfl,_,_,_,vs,hvs⟩
      · refine ⟨_,run_convert_bytes_nil (P:=P) (w:=w) src e hs he 0 0 dst hd,?_,rfl⟩
        have:sb s=sb ByteArray.empty:=by
          have h3:sb s=[]:=by
            have:=congrArg List.length h1
            rw [List.length_map] at this
            exact List.eq_nil_of_length_eq_zero this.symm
          rw [h3]; rfl
        rw [this]
        exact .str _
      · refine ⟨_,?_,.str s,rfl⟩
        have hsl:s.data.toList.length=s.size:=by rw [Array.length_toList]; rfl
        have hr:=run_convert_bytes_back (P:=P) w src dst e a c s.data.toList hs he hd (fun j hj=>by
          rw [hsl] at hj
          obtain ⟨g1,_,g3⟩:=hvs j (by omega) 0 (by omega)
          rw [Nat.mul_one,Nat.add_zero] at g1
          rw [g1]
          have e1 : (cells (xs.getD j .junk)).getD 0 .junk = .int .u8 (.ofNat (s.data.toList.getD j 0).toNat):=by
            have:xs=strL (sb s):=by rw [strL_eq]; exact h1
            rw [this,strL_at hj]; rfl
          rw [e1] at g3
          rw [g3.int_inv,List.getD_eq_getElem?_getD,List.getElem?_eq_getElem (by rw [hsl]; exact hj)]
          rfl)
        rw [hsl] at hr
        rw [hxl]
        exact hr
theorem cbb_ok (I:Inv RC β U Fb h w) {src e:TypeId} (hs:P.underlying src=some (.slice e)) (he:P.underlying e=some (.int .u8))
    {vx:Value} {x d:D} {n':Nat} {h':Hps} (hx:Rep w (Mk β Fb h) β U vx x) (hd2:cbbD N h x = .ok d n' h') :
    ∃ v w' β',(convert src src vx).run P w = .ok v w'∧Rep w' (Mk β' Fb h') β' (Ad U N) v d∧Inv RC β' (Ad U N) Fb h' w'∧Adv β U h w β' (Ad U N) h' w':=by
  cases hx with
  | @ms _ r a off len c full hr ha hl hf hg hC hcx =>
    have hd3:cbbR N h (.ms (β r).k r off len full) len (getO h r) = .ok d n' h':=hd2
    cases hgo:getO h r with
    | row kk es =>
      rw [hgo] at hd3
      obtain ⟨h1,h2⟩:=ifR_inv (show ifR (Nat.blt 0 len) (.ok (.ms (β r).k r off len full) N h) = .ok d n' h' from hd3)
      cases h2
      rw [blt_iff] at h1
      have h1:=of_decide_eq_true h1
      have ha':a=⟨(β r).b,off * (β r).k,none⟩:=by
        rcases ha with e | ⟨e,_,_⟩
        · exact e
        · omega
      have hp:getO h r ≠ .none:=by rw [hgo]; exact fun h=>by cases h
      have ho:=I.obj r
      rw [hgo] at ho
      obtain ⟨o1,o2,o3,cc,T,⟨fr,o4,o5⟩,o6,o7⟩:=ho
      have hsh:w.shape? (β r).b=some (T,cc.size):=by simp [World.shape?,o4]
      have hrun : (convert src src (.slice (some a) len c)).run P w = .ok (.slice (some a) len c) (w.freeze ⟨(β r).b,cc.size,none⟩ 1):=by
        rw [ha']
        simp [convert,run_underlying hs,run_underlying he,markStringish,hsh,Result.andThen]
      have hsize : (w.freeze ⟨(β r).b,cc.size,none⟩ 1).heap.size=w.heap.size:=by simp [World.freeze]
      have hother:∀ b,b ≠ (β r).b → (w.freeze ⟨(β r).b,cc.size,none⟩ 1).heap[b]? = w.heap[b]? := fun b hb=>by
        simp [World.freeze,Array.getElem?_modify,Ne.symm hb]
      have hself:∃ fr',(w.freeze ⟨(β r).b,cc.size,none⟩ 1).heap[(β r).b]? = some (.cells cc T fr') ∧ (fr' = (0,0)∨cc.size≤fr'.1):=by
        obtain ⟨lo,hi⟩:=fr
        by_cases hlh:lo=hi
        · refine ⟨(cc.size,cc.size+1),?_,.inr (Nat.le_refl _)⟩
          simp [World.freeze,Array.getElem?_modify,o4,hlh]
        · refine ⟨(min lo cc.size,max hi (cc.size+1)),?_,.inr ?_⟩
          · simp [World.freeze,Array.getElem?_modify,o4,hlh]
          · rcases o5 with e | e
            · cases e; exact absurd rfl hlh
            · simp only at e ⊢; omega
      have hA:Adv β U h w β (Ad U N) h (w.freeze ⟨(β r).b,cc.size,none⟩ 1) :=
        ⟨rfl,rfl,rfl,Nat.le_of_eq hsize.symm,Sub.ad _ _,fun _ _=>rfl,fun b hb hn=>hother b (fun e=>hn ⟨r,hp,e.symm⟩),fun b hb ht=>ht⟩
      refine ⟨_,_,β,hrun,?_,?_,hA⟩
      · exact (Rep.ms a off len c full hr ha hl hf hg hC hcx:Rep w (Mk β Fb h) β U _ _).adv hA (Sub.refl _) _ (Sub.ad _ _)
      · refine I.step RC hA (fun q hq=>?_) I.inj (fun b hb => (I.frm b hb).2)
        by_cases e:q=r
        · subst e
          refine .inr ⟨.inl (I.key _ hp),by rw [hsize]; exact I.lt _ hp,?_⟩
          rw [hgo]
          exact ⟨o1,o2,o3,cc,T,hself,o6,fun i hi j hj=>⟨(o7 i hi j hj).1,(o7 i hi j hj).2.adv hA (Sub.refl _) _ (Sub.ad _ _)⟩⟩
        · exact .inl ⟨rfl,hother _ (fun e2=>e (I.inj q r hq hp e2))⟩
    | _=>rw [hgo] at hd3; cases hd3
  | _=>cases hd2

end
end Go.Proofs.Ytpbpmpabndgeeaa
