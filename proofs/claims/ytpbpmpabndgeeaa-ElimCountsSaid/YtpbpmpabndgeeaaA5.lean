/- Each operation, run. Third part: stores. No condition. -/
import Derived.Test.YtpbpmpabndgeeaaA2

/- Each operation,run: what it comes to on data is what it comes to in the model. First part. No condition. -/
set_option linter.unusedSimpArgs false
set_option linter.unusedVariables false
namespace Go.Proofs.Ytpbpmpabndgeeaa
open Go

section
variable {P:Program} {RC:Nat→Code→DCode→Prop} {Fb:Nat→Prop} {β:Nat→Bk} {U:Us} {N:Nat} {h:Hps} {w:World}

theorem ev_ok {M:Nat→Prop} {a:Act} {e:Tr} {m:Nat} (E:EnvOk w M β U a.tmps e) (hm:m≤a.tmps.size) (x:Operand):Rep w M β U (a.eval x) (ev e (cO m x)):=by
  cases x with
  | tmp t =>
    by_cases ht:t < m
    · have:cO m (.tmp t) = .s (po t):=if_pos ht
      rw [this]; exact E.2 t (Nat.lt_of_lt_of_le ht hm)
    · have:cO m (.tmp t) = .k .junk:=if_neg ht
      rw [this]; exact .junk
  | const v=>exact ofV_rep _ _ _ _ v
  | global g=>exact .junk
  | func f=>exact .fn f #[] #[] [] [] rfl rfl (fun i hi=>absurd hi (Nat.not_lt_zero _)) (fun i hi=>absurd hi (Nat.not_lt_zero _))

theorem evs_ok {M:Nat→Prop} {a:Act} {e:Tr} {m:Nat} (E:EnvOk w M β U a.tmps e) (hm:m≤a.tmps.size) (xs:Array Operand) :
    (xs.map a.eval).size = (evs e (cOs m xs)).length∧∀ i,i < (evs e (cOs m xs)).length→Rep w M β U ((xs.map a.eval).getD i undef) ((evs e (cOs m xs)).getD i .junk):=by
  rw [evs_eq]
  unfold cOs
  refine ⟨by simp,fun i hi=>?_⟩
  have hi':i < xs.size:=by simpa using hi
  have e1 : (xs.map a.eval).getD i undef=a.eval xs[i]:=by simp [Array.getD,hi']
  have e2 : (((xs.toList.map (cO m)).map (ev e)).getD i .junk)=ev e (cO m xs[i]):=by simp [List.getD_eq_getElem?_getD,hi']
  rw [e1,e2]
  exact ev_ok E hm _

theorem EnvOk.put {M:Nat→Prop} {tmps:Array Value} {e:Tr} (E:EnvOk w M β U tmps e) {t:Nat} {v:Value} {d:D} (hr:Rep w M β U v d) (ht:t < 2 ^ 20):EnvOk w M β U (tmps.setIfInBounds t v) (putT (po t) d e):=by
  refine ⟨by simpa using E.1,fun i hi=>?_⟩
  have hi':i < tmps.size:=by simpa using hi
  by_cases e1:t=i
  · subst e1
    rw [get_put_same]
    have : (tmps.setIfInBounds t v).getD t undef=v:=by simp [Array.getD,hi']
    rw [this]; exact hr
  · rw [get_put_ne d (po i) (po t) e (fun h=>e1 (po_inj ht (Nat.lt_trans hi' E.1) h.symm))]
    have : (tmps.setIfInBounds t v).getD i undef=tmps.getD i undef:=by simp [Array.getD,hi',Array.getElem_setIfInBounds,e1]
    rw [this]; exact E.2 i hi'

theorem EnvOk.dst {M:Nat→Prop} {a:Act} {e:Tr} (E:EnvOk w M β U a.tmps e) {m:Nat} (hm:m < 2 ^ 20) {dst:Option Nat} {v:Value} {d:D} (hr:Rep w M β U v d) {dp:Option Po} (hd:cDst m dst=some dp) :
    EnvOk w M β U (a.put dst v).tmps (putE e dp d):=by
  cases dst with
  | none=>cases hd; exact E
  | some t =>
    unfold cDst at hd
    simp only at hd
    split at hd
    · rename_i ht
      cases hd
      exact E.put hr (by omega)
    · cases hd

theorem Rep.oneCell {M:Nat→Prop} {v:Value} {d:D} (hr:Rep w M β U v d) (hd:one d=true):v.oneCell'=true∧v.cells = #[v]:=by
  cases hr <;> first | exact ⟨rfl,rfl⟩ | cases hd
theorem cells_one {d:D} (hd:one d=true):cells d=[d]:=by cases d <;> first | rfl | cases hd
def solid:D→Bool
  | .junk=>false
  | .tup _=>false
  | _=>true
theorem Rep.cells {M:Nat→Prop} {v:Value} {d:D} (hr:Rep w M β U v d) (hd:solid d=true) :
    v.cells.size = (cells d).length∧∀ i,i < (Ytpbpmpabndgeeaa.cells d).length → (v.cells.getD i undef).oneCell'=true∧Rep w M β U (v.cells.getD i undef) ((Ytpbpmpabndgeeaa.cells d).getD i .junk):=by
  by_cases h1:one d=true
  · obtain ⟨h2,h3⟩:=hr.oneCell h1
    rw [h3,cells_one h1]
    refine ⟨rfl,fun i hi=>?_⟩
    have:i=0:=by simp at hi; omega
    subst this
    exact ⟨h2,hr⟩
  · cases hr with
    | agg vs cs hl ho hr=>exact ⟨hl,fun i hi=>⟨ho i hi,hr i hi⟩⟩
    | junk=>cases hd
    | tup vs cs hl hr=>cases hd
    | _=>exact absurd rfl h1

theorem Adv.up (I:Inv RC β U Fb h w):Adv β U h w β (Ad U N) h w:=⟨rfl,rfl,rfl,Nat.le_refl _,Sub.ad _ _,fun _ _=>rfl,fun _ _ _=>rfl,fun _ _ h=>h⟩
theorem Inv.up (I:Inv RC β U Fb h w):Inv RC β (Ad U N) Fb h w :=
  I.step RC (Adv.up (N:=N) I) (fun r _ => .inl ⟨rfl,rfl⟩) I.inj (fun b hb => (I.frm b hb).2)

def OpOk (P:Program) (RC:Nat→Code→DCode→Prop) (Fb:Nat→Prop) (β:Nat→Bk) (U:Us) (N:Nat) (h:Hps) (w:World) (r:Result Next) (d:D) (h':Hps) (q:Prop):Prop :=
  (∃ v,r = .ok (.value v) w∧h'=h∧Rep w (Mk β Fb h) β U v d)∨q∧∃ v w' β',(r = .ok (.value v) w' ∨ (r = .ok .skip w'∧v=undef))∧Rep w' (Mk β' Fb h') β' (Ad U N) v d∧Inv RC β' (Ad U N) Fb h' w'∧Adv β U h w β' (Ad U N) h' w'

theorem OpOk.still (I:Inv RC β U Fb h w) {r:Result Next} {v:Value} {d:D} (hr:r = .ok (.value v) w) (hd:Rep w (Mk β Fb h) β U v d) {q:Prop}:OpOk P RC Fb β U N h w r d h q := .inl ⟨v,hr,rfl,hd⟩
theorem OpOk.gen (I:Inv RC β U Fb h w) {r:Result Next} {d:D} {h':Hps} {q:Prop} (H:OpOk P RC Fb β U N h w r d h' q) :
    ∃ v w' β',(r = .ok (.value v) w' ∨ (r = .ok .skip w'∧v=undef))∧Rep w' (Mk β' Fb h') β' (Ad U N) v d∧Inv RC β' (Ad U N) Fb h' w'∧Adv β U h w β' (Ad U N) h' w':=by
  rcases H with ⟨v,h1,rfl,h2⟩ | ⟨_,h⟩
  · exact ⟨v,w,β,.inl h1,h2.adv (Adv.up (N:=N) I) (Sub.refl _) _ (Sub.ad _ _),I.up,Adv.up I⟩
  · exact h
def newO (P:Program) (o:Oper):Bool:=match o.op with
  | .convert src dst _ => (match P.underlying src,P.underlying dst with | some .string,some (.slice _)=>true | some (.slice _),some (.slice _)=>true | _,_=>false)
  | .alloc _=>true
  | .box .. => true
  | .buildSlice .. => true
  | .store .. => true
  | .makeSlice .. => true
  | .makeMap .. => true
  | .mapUpdate .. => true
  | .range .. => true
  | .call c => (match c.callee with | .builtin .append=>true | .builtin .delete=>true | _=>false)
  | _=>false

def upd (β:Nat→Bk) (n:Nat) (B:Bk):Nat→Bk:=fun r=>if r=n then B else β r
theorem upd_same (β:Nat→Bk) (n:Nat) (B:Bk):upd β n B n=B:=if_pos rfl
theorem upd_ne (β:Nat→Bk) {n r:Nat} (B:Bk) (hr:r≠n):upd β n B r=β r:=if_neg hr

structure Grew (w w':World) (o:Obj):Prop where
  os:w'.os=w.os
  tape:w'.tape=w.tape
  output:w'.output=w.output
  heap:w'.heap=w.heap.push o

theorem Grew.size {w w':World} {o:Obj} (g:Grew w w' o):w'.heap.size=w.heap.size+1:=by rw [g.heap]; simp
theorem Grew.old {w w':World} {o:Obj} (g:Grew w w' o) {b:Nat} (hb:b < w.heap.size):w'.heap[b]? = w.heap[b]? := by rw [g.heap,Array.getElem?_push,if_neg (by omega)]
theorem Grew.new {w w':World} {o:Obj} (g:Grew w w' o):w'.heap[w.heap.size]? = some o:=by rw [g.heap]; simp
theorem Grew.alloc (w:World) (o:Obj):Grew w (w.alloc o) o:=⟨rfl,rfl,rfl,rfl⟩

theorem Adv.new (I:Inv RC β U Fb h w) (hN:¬ U N) {w':World} {o:Obj} (g:Grew w w' o) (x:Ob) (k C:Nat):Adv β U h w (upd β N ⟨w.heap.size,k,C⟩) (Ad U N) ((N,x)::h) w':=by
  refine ⟨g.os,g.tape,g.output,by rw [g.size]; omega,Sub.ad _ _,fun r hr=>upd_ne _ _ (fun e=>hN (e ▸ hr)),fun b hb _=>g.old hb,fun b hb ht=>?_⟩
  obtain ⟨r,hr,hb'⟩:=ht
  rw [getO_cons] at hr
  by_cases e:N=r
  · subst e; rw [upd_same] at hb'; simp at hb'; omega
  · rw [if_neg e] at hr
    rw [upd_ne _ _ (fun h=>e h.symm)] at hb'
    exact ⟨r,hr,hb'⟩

theorem Inv.new (I:Inv RC β U Fb h w) (hN:¬ U N) {w':World} {o:Obj} (g:Grew w w' o) (x:Ob) (k C:Nat)
    (hok:ObOk RC w' (Mk (upd β N ⟨w.heap.size,k,C⟩) Fb ((N,x)::h)) (upd β N ⟨w.heap.size,k,C⟩) (Ad U N) x ⟨w.heap.size,k,C⟩) :
    Inv RC (upd β N ⟨w.heap.size,k,C⟩) (Ad U N) Fb ((N,x)::h) w':=by
  have hlt:∀ r,r≠N→getO ((N,x)::h) r ≠ .none→getO h r ≠ .none ∧ (upd β N ⟨w.heap.size,k,C⟩ r)=β r ∧ (β r).b < w.heap.size:=by
    intro r hr hg
    rw [getO_cons,if_neg (fun e=>hr e.symm)] at hg
    exact ⟨hg,upd_ne _ _ hr,I.lt r hg⟩
  refine I.step RC (Adv.new I hN g x k C) (fun r hr=>?_) (fun r q hr hq e=>?_) (fun b hb ht=>?_)
  · by_cases e:r=N
    · subst e
      refine .inr ⟨.inr rfl,?_,?_⟩
      · rw [upd_same,g.size]; exact Nat.lt_succ_self _
      · rw [upd_same,getO_cons,if_pos rfl]; exact hok
    · obtain ⟨h1,h2,h3⟩:=hlt r e hr
      exact .inl ⟨by rw [getO_cons,if_neg (fun h=>e h.symm)],g.old h3⟩
  · by_cases e1:r=N
    · by_cases e2:q=N
      · rw [e1,e2]
      · obtain ⟨_,h2,h3⟩:=hlt q e2 hq
        rw [e1,upd_same,h2] at e
        simp only at e
        omega
    · obtain ⟨h1,h2,h3⟩:=hlt r e1 hr
      by_cases e2:q=N
      · rw [e2,upd_same,h2] at e
        simp only at e
        omega
      · obtain ⟨h4,h5,_⟩:=hlt q e2 hq
        rw [h2,h5] at e
        exact I.inj r q h1 h4 e
  · obtain ⟨r,hr,hb'⟩:=ht
    by_cases e:r=N
    · subst e
      rw [upd_same] at hb'
      have := (I.frm b hb).1
      simp only at hb'
      omega
    · obtain ⟨h1,h2,h3⟩:=hlt r e hr
      rw [h2] at hb'
      exact (I.frm b hb).2 ⟨r,h1,hb'⟩

end
end Go.Proofs.Ytpbpmpabndgeeaa

/- Each operation,run. Second part: what reads and writes memory. No condition. -/
namespace Go.Proofs.Ytpbpmpabndgeeaa
open Go

theorem okD_inv {n n':Nat} {h h':Hps} {x d:D} (e:okD n h x = .ok d n' h'):x=d∧n=n'∧h=h'∧d ≠ .junk:=by
  cases x <;> first | (cases e; done) | (cases e; exact ⟨rfl,rfl,rfl,fun h=>by cases h⟩)
theorem ifR_inv {b:Bool} {r:Rd} {d:D} {n:Nat} {h:Hps} (e:ifR b r = .ok d n h):b=true∧r = .ok d n h:=by
  cases b with
  | true=>exact ⟨rfl,e⟩
  | false=>cases e
theorem boolrec_D {b:Bool} {x:D} (e : (Bool.rec (motive:=fun _=>D) .junk x b) ≠ .junk):b=true:=by
  cases b with
  | true=>rfl
  | false=>exact absurd rfl e

theorem sub_ag {k j:Nat} {e d:D} (he:sub true k j e=d) (hd:d ≠ .junk):∃ cs,e = .agg cs∧j+k≤cs.length + (if k=0 then j else 0)∧d = .agg ((cs.drop j).take k) ∧ ((cs.drop j).take k).length=k:=by
  cases e with
  | agg cs =>
    have h1:subW k (takeL k (dropL j cs))=d:=he
    rw [takeL_eq,dropL_eq] at h1
    unfold subW at h1
    rw [lenL_eq,beq_iff] at h1
    by_cases hk:k = ((cs.drop j).take k).length
    · rw [decide_eq_true hk] at h1
      refine ⟨cs,rfl,?_,h1.symm,hk.symm⟩
      have h2:=hk
      simp only [List.length_take,List.length_drop] at h2
      split
      · omega
      · omega
    · rw [decide_eq_false hk] at h1
      exact absurd h1.symm hd
  | _=>exact absurd he.symm hd
theorem sub_one {k j:Nat} {e d:D} (he:sub false k j e=d) (hd:d ≠ .junk):j < (cells e).length ∧ (cells e).getD j .junk=d:=by
  cases e with
  | agg cs =>
    have h1:nth cs j=d:=he
    rw [nth_eq] at h1
    refine ⟨?_,h1⟩
    show j < cs.length
    by_cases hj:j < cs.length
    · exact hj
    · exfalso
      apply hd
      rw [← h1]
      simp [List.getD_eq_getElem?_getD,hj]
  | _ =>
    cases j with
    | zero=>exact ⟨Nat.lt_succ_self _,he⟩
    | succ j=>exact absurd he.symm hd

section
variable {P:Program} {RC:Nat→Code→DCode→Prop} {Fb:Nat→Prop} {β:Nat→Bk} {U:Us} {N:Nat} {h:Hps} {w:World}

theorem run_isAgg {t:TypeId} {dd:TypeDesc} (hu:P.underlying t=some dd) (w:World) : (isAgg t).run P w = .ok (aggD dd) w:=by
  unfold isAgg
  rw [Sem.run_bind,run_underlying hu]
  simp only [Result.andThen_ok]
  cases dd <;> rfl
theorem run_sizeOf {t:TypeId} {i:TypeInfo} (hi:P.info? t=some i) (w:World) : (sizeOf t).run P w = .ok i.size w:=by
  simp [sizeOf,typeInfo,hi]

theorem load_ok {M:Nat→Prop} {N0:Us} {t:TypeId} {i:TypeInfo} {dd:TypeDesc} (hi:P.info? t=some i) (hu:P.underlying t=some dd) {b o j:Nat} {e d:D} {vs:Nat→Value}
    (hc:∀ x,x < (cells e).length→w.cell? ⟨b,o+x,none⟩=some (vs x)) (ho:∀ x,x < (cells e).length → (vs x).oneCell'=true)
    (hr:∀ x,x < (cells e).length→Rep w M β N0 (vs x) ((cells e).getD x .junk)) (hs:sub (aggD dd) i.size j e=d) (hd:d ≠ .junk) :
    ∃ v,(loadVar t ⟨b,o+j,none⟩).run P w = .ok v w∧Rep w M β N0 v d:=by
  cases hag:aggD dd with
  | true =>
    rw [hag] at hs
    obtain ⟨cs,rfl,h1,rfl,h2⟩:=sub_ag hs hd
    have hlen:∀ x,x < i.size→j+x < cs.length:=by
      intro x hx
      rw [if_neg (by omega)] at h1
      omega
    refine ⟨.agg ((List.range i.size).map fun x=>vs (j+x)).toArray,?_,?_⟩
    · unfold loadVar
      rw [Sem.run_bind,run_isAgg hu,hag]
      simp only [Result.andThen_ok,if_true]
      rw [Sem.run_bind,run_sizeOf hi]
      simp only [Result.andThen_ok]
      rw [Sem.run_bind,run_loadCells w ⟨b,o+j,none⟩ i.size (fun x=>vs (j+x)) (fun x hx=>by
        rw [Addr.add_lit,Nat.add_assoc]
        exact hc (j+x) (hlen x hx))]
      rfl
    · have e1:∀ x,x < i.size → ((cs.drop j).take i.size).getD x .junk=cs.getD (j+x) .junk:=by
        intro x hx
        simp [List.getD_eq_getElem?_getD,List.getElem?_take,hx,List.getElem?_drop]
      have e2:∀ x,x < i.size → (((List.range i.size).map fun x=>vs (j+x)).toArray).getD x undef=vs (j+x):=by
        intro x hx
        simp [Array.getD,hx]
      refine .agg _ _ (by simp only [List.size_toArray,List.length_map,List.length_range]; exact h2.symm) (fun x hx=>?_) (fun x hx=>?_)
      · rw [h2] at hx; rw [e2 x hx]; exact ho _ (hlen x hx)
      · rw [h2] at hx; rw [e2 x hx,e1 x hx]; exact hr _ (hlen x hx)
  | false =>
    rw [hag] at hs
    obtain ⟨h1,rfl⟩:=sub_one hs hd
    refine ⟨vs j,?_,hr j h1⟩
    unfold loadVar
    rw [Sem.run_bind,run_isAgg hu,hag]
    simp only [Result.andThen_ok,Bool.false_eq_true,if_false,run_load,hc j h1]

theorem row_elem (I:Inv RC β U Fb h w) {r i k:Nat} {es:List D} (hg:getO h r = .row k es) (hi:i < es.length) :
    (β r).k=k ∧ (cells (es.getD i .junk)).length=k∧∃ c T,CellsAt w (β r).b c T∧c.size = (β r).C∧i*k+k≤c.size ∧
      ∀ x,x < k→w.cell? ⟨(β r).b,i*k+x,none⟩=some (c.getD (i*k+x) undef) ∧ (c.getD (i*k+x) undef).oneCell'=true∧Rep w (Mk β Fb h) β U (c.getD (i*k+x) undef) ((cells (es.getD i .junk)).getD x .junk):=by
  have ho:=I.obj r
  rw [hg] at ho
  obtain ⟨h1,h2,h3,c,T,h4,h5,h6⟩:=ho
  have hmem:es.getD i .junk∈es:=by rw [List.getD_eq_getElem?_getD,List.getElem?_eq_getElem hi]; exact List.getElem_mem hi
  have hle:i*k+k≤c.size:=by
    rw [h5]
    have : (i+1)*k≤es.length*k:=Nat.mul_le_mul_right _ hi
    rw [Nat.add_mul,Nat.one_mul] at this
    omega
  refine ⟨h1,h3 _ hmem,c,T,h4,h5,hle,fun x hx=>⟨?_,h6 i hi x hx⟩⟩
  have hlt:i*k+x < c.size:=by omega
  obtain ⟨fr,h4,_⟩:=h4
  simp [World.cell?,h4,Array.getD,hlt]

theorem nth_lt {es:List D} {i:Nat} (hn:nth es i ≠ .junk):i < es.length:=by
  rw [nth_eq] at hn
  by_cases hi:i < es.length
  · exact hi
  · exact absurd (by simp [List.getD_eq_getElem?_getD,hi]) hn
theorem sub_junk {ag:Bool} {k j:Nat}:sub ag k j .junk = .junk:=by
  cases ag with
  | true=>rfl
  | false=>cases j <;> rfl

theorem loadD_ok (I:Inv RC β U Fb h w) {t:TypeId} {ti:TypeInfo} {dd:TypeDesc} (hi:P.info? t=some ti) (hu:P.underlying t=some dd) {v:Value} {x d:D} {n':Nat} {h':Hps}
    (hv:Rep w (Mk β Fb h) β U v x) (hl:loadD (aggD dd) ti.size N h x = .ok d n' h') :
    ∃ a v',v = .pointer (some a) ∧ (loadVar t a).run P w = .ok v' w∧Rep w (Mk β Fb h) β U v' d∧h'=h:=by
  cases hv with
  | @ptr _ r i j hr =>
    have hl':loadR (aggD dd) ti.size i j N h (getO h r) = .ok d n' h':=hl
    cases hg:getO h r with
    | row k es =>
      rw [hg] at hl'
      obtain ⟨h1,rfl,rfl,h2⟩:=okD_inv hl'
      have hlt:i < es.length:=nth_lt (fun hn=>by rw [hn,sub_junk] at h1; exact h2 h1.symm)
      obtain ⟨h3,h4,c,T,h5,h6,h7,h8⟩:=row_elem I hg hlt
      rw [nth_eq] at h1
      obtain ⟨v',h9,h10⟩:=load_ok (P:=P) (w:=w) (N0:=U) (M:=Mk β Fb h) (β:=β) hi hu (b := (β r).b) (o:=i*k) (j:=j) (vs:=fun x=>c.getD (i*k+x) undef)
        (fun x hx => (h8 x (h4 ▸ hx)).1) (fun x hx => (h8 x (h4 ▸ hx)).2.1) (fun x hx => (h8 x (h4 ▸ hx)).2.2) h1 h2
      exact ⟨_,v',rfl,by rw [h3]; exact h9,h10,rfl⟩
    | none=>rw [hg] at hl'; cases hl'
    | map es=>rw [hg] at hl'; cases hl'
    | mit=>rw [hg] at hl'; cases hl'
    | loop=>rw [hg] at hl'; cases hl'
  | ip b o e j vs hM hc ho hr =>
    obtain ⟨h1,rfl,rfl,h2⟩:=okD_inv hl
    obtain ⟨v',h9,h10⟩:=load_ok (P:=P) (w:=w) (N0:=No) (M:=Mk β Fb h) (β:=β) hi hu (b:=b) (o:=o) (j:=j) (vs:=vs) hc ho hr h1 h2
    exact ⟨_,v',rfl,h9,h10.adv (Adv.refl β U h w) (Sub.no _) _ (Sub.no _),rfl⟩
  | _=>cases hl

theorem solid_of_box {n k:Nat} {h h':Hps} {d x:D} {n':Nat} (e:boxD n h k d = .ok x n' h'):solid d=true ∧ (cells d).length=k∧x = .ptr n 0 0∧n'=n∧h' = (n,.row k [d])::h:=by
  have key:∀ y:D,solid y=true→ifR (Nat.beq k (lenL (cells y))) (.ok (.ptr n 0 0) n ((n,.row k [y])::h)) = .ok x n' h' → (cells y).length=k∧x = .ptr n 0 0∧n'=n∧h' = (n,.row k [y])::h:=by
    intro y _ e
    obtain ⟨h1,h2⟩:=ifR_inv e
    rw [lenL_eq,beq_iff] at h1
    cases h2
    exact ⟨(of_decide_eq_true h1).symm,rfl,rfl,rfl⟩
  cases d <;> first | (cases e; done) | exact ⟨rfl,key _ rfl e⟩

theorem box_ok (I:Inv RC β U Fb h w) (hN:¬ U N) {T:TypeId} {v:Value} {d:D} {k:Nat} (hv:Rep w (Mk β Fb h) β U v d) (hs:solid d=true) (hk : (cells d).length=k) :
    ∃ w' β',(newVar T v).run P w = .ok ⟨w.heap.size,0,none⟩ w'∧Rep w' (Mk β' Fb ((N,.row k [d])::h)) β' (Ad U N) (.pointer (some ⟨w.heap.size,0,none⟩)) (.ptr N 0 0) ∧
      Inv RC β' (Ad U N) Fb ((N,.row k [d])::h) w'∧Adv β U h w β' (Ad U N) ((N,.row k [d])::h) w':=by
  obtain ⟨h1,h2⟩:=hv.cells hs
  have g:Grew w (w.alloc (.cells v.cells T)) (.cells v.cells T):=Grew.alloc _ _
  have hA:=Adv.new I hN g (.row k [d]) k k
  refine ⟨w.alloc (.cells v.cells T),upd β N ⟨w.heap.size,k,k⟩,rfl,?_,Inv.new I hN g (.row k [d]) k k ?_,hA⟩
  · have:=Rep.ptr (w:=w.alloc (.cells v.cells T)) (M:=Mk (upd β N ⟨w.heap.size,k,k⟩) Fb ((N,.row k [d])::h)) (β:=upd β N ⟨w.heap.size,k,k⟩) (N:=Ad U N) (r:=N) 0 0 (.inr rfl)
    rw [upd_same] at this
    simpa using this
  · refine ⟨rfl,by simp,fun e he=>?_,v.cells,T,.of g.new,h1.trans hk,fun i hi j hj=>?_⟩
    · have:e=d:=by simpa using he
      rw [this]; exact hk
    · have:i=0:=by simp at hi; omega
      subst this
      rw [Nat.zero_mul,Nat.zero_add]
      have hj':j < (cells d).length:=by omega
      exact ⟨(h2 j hj').1,(h2 j hj').2.adv hA (Sub.refl _) _ (Sub.ad _ _)⟩

theorem run_storeCells_atZ (P:Program) (g o:Nat) (t:TypeId) (fz:Nat×Nat):∀ (vs:List Value) (i:Nat) (cur:Array Value) (w:World),w.heap[g]? = some (.cells cur t fz) → (fz = (0,0)∨cur.size≤fz.1)→o+i+vs.length≤cur.size → (∀ v∈vs,v.oneCell'=true) →
    (storeCells ⟨g,o,none⟩ vs i).run P w = .ok () (w.setRow g (cur.toList.take (o+i)++vs++cur.toList.drop (o+i+vs.length)).toArray)
  | [],i,cur,w,hg,_,_,_=>by
    simp only [storeCells,List.append_nil,List.length_nil,Nat.add_zero,List.take_append_drop,Array.toArray_toList]
    rw [setRow_self w g cur t fz hg]
    rfl
  | v::rest,i,cur,w,hg,hfz,hl,h1=>by
    have hi:o+i < cur.size:=by simp at hl; omega
    have hadd : (⟨g,o,none⟩:Addr).add i=⟨g,o+i,none⟩:=by unfold Addr.add; split <;> simp_all
    have hcell:w.cell? ⟨g,o+i,none⟩=some cur[o+i]:=by simp [World.cell?,hg,hi]
    have hfro:w.frozen? ⟨g,o+i,none⟩=false:=by
      obtain ⟨lo,hi'⟩:=fz
      simp only [World.frozen?,hg,Bool.and_eq_false_iff,decide_eq_false_iff_not]
      rcases hfz with e | e
      · cases e; right; omega
      · left; simp only at e; omega
    have hst : (store ((⟨g,o,none⟩:Addr).add i) v).run P w = .ok () (w.setRow g (cur.setIfInBounds (o+i) v)):=by
      rw [hadd,run_store P w _ v _ (h1 v (by simp)),hcell]
      simp [hfro,setCell_eq_setRow w g (o+i) cur t fz v hg]
    have ih:=run_storeCells_atZ P g o t fz rest (i+1) (cur.setIfInBounds (o+i) v) (w.setRow g (cur.setIfInBounds (o+i) v)) (setRow_heap w g cur _ t _ hg) (by simpa using hfz) (by simp at hl ⊢; omega) (fun x hx=>h1 x (by simp [hx]))
    simp only [storeCells,Sem.run_bind,hst,Result.andThen_ok,ih,setRow_setRow]
    congr 3
    have e:=list_seg_step cur.toList (o+i) v rest (by simp at hl ⊢; omega)
    simpa [Array.toList_setIfInBounds,Nat.add_assoc] using e
theorem getD_splice {α:Type} (l news:List α) (u:α) (o x:Nat) (hl:o+news.length≤l.length) :
    (l.take o++news++l.drop (o+news.length)).getD x u=if o≤x∧x < o+news.length then news.getD (x - o) u else l.getD x u:=by
  have hto : (l.take o).length=o:=by simp; omega
  simp only [List.getD_eq_getElem?_getD]
  by_cases h1:x < o
  · rw [if_neg (by omega),List.append_assoc,List.getElem?_append_left (by omega),List.getElem?_take,if_pos h1]
  · by_cases h2:x < o+news.length
    · rw [if_pos ⟨by omega,h2⟩,List.append_assoc,List.getElem?_append_right (by omega),hto,List.getElem?_append_left (by omega)]
    · rw [if_neg (by omega),List.getElem?_append_right (by simp; omega),List.getElem?_drop]
      congr 2
      simp
      omega

theorem Adv.turn (I:Inv RC β U Fb h w) {r:Nat} (hp:getO h r ≠ .none) (x:Ob) {w':World} (ho:w'.os=w.os) (ht:w'.tape=w.tape) (hu:w'.output=w.output) (hs:w'.heap.size=w.heap.size)
    (hk:∀ b,b ≠ (β r).b→w'.heap[b]? = w.heap[b]?):Adv β U h w β (Ad U N) (setO h r x) w':=by
  refine ⟨ho,ht,hu,Nat.le_of_eq hs.symm,Sub.ad _ _,fun _ _=>rfl,fun b hb hn=>hk b (fun e=>hn ⟨r,hp,e.symm⟩),fun b hb htk=>?_⟩
  obtain ⟨q,hq,e⟩:=htk
  by_cases hqr:q=r
  · exact ⟨q,hqr ▸ hp,e⟩
  · rw [getO_setO h r q x hp,if_neg hqr] at hq
    exact ⟨q,hq,e⟩
theorem Inv.turn (I:Inv RC β U Fb h w) {r:Nat} (hp:getO h r ≠ .none) (x:Ob) {w':World} (ho:w'.os=w.os) (ht:w'.tape=w.tape) (hu:w'.output=w.output) (hs:w'.heap.size=w.heap.size)
    (hk:∀ b,b ≠ (β r).b→w'.heap[b]? = w.heap[b]?) (hx:ObOk RC w' (Mk β Fb (setO h r x)) β (Ad U N) x (β r)):Inv RC β (Ad U N) Fb (setO h r x) w':=by
  have hsub:∀ q,getO (setO h r x) q ≠ .none→getO h q ≠ .none:=by
    intro q hq
    by_cases hqr:q=r
    · exact hqr ▸ hp
    · rw [getO_setO h r q x hp,if_neg hqr] at hq; exact hq
  refine I.step RC (Adv.turn I hp x ho ht hu hs hk) (fun q hq=>?_) (fun q q' hq hq' e=>I.inj q q' (hsub q hq) (hsub q' hq') e) (fun b hb htk=>?_)
  · by_cases hqr:q=r
    · subst hqr
      refine .inr ⟨.inl (I.key _ hp),by rw [hs]; exact I.lt _ hp,?_⟩
      rw [getO_setO h q q x hp,if_pos rfl]
      exact hx
    · refine .inl ⟨by rw [getO_setO h r q x hp,if_neg hqr],hk _ (fun e=>hqr (I.inj q r (hsub q hq) hp e))⟩
  · obtain ⟨q,hq,e⟩:=htk
    exact (I.frm b hb).2 ⟨q,hsub q hq,e⟩

end
end Go.Proofs.Ytpbpmpabndgeeaa

/- Each operation,run. Third part: stores. No condition. -/
namespace Go.Proofs.Ytpbpmpabndgeeaa
open Go

theorem overwrite_eq (xs:List D):∀ (j:Nat) (l:List D),j+xs.length≤l.length→overwrite xs j l=l.take j++xs++l.drop (j+xs.length):=by
  induction xs with
  | nil=>intro j l _; show l=_; simp
  | cons x xs ih =>
    intro j l hl
    show overwrite xs (Nat.succ j) (put l j x)=_
    simp only [List.length_cons] at hl
    have hj:j < l.length:=by omega
    have e1 : (l.set j x).take (j+1)=l.take j++[x]:=by
      rw [List.take_add_one,List.take_set_of_le (Nat.le_refl _),List.getElem?_set_self hj]
      rfl
    have e2 : (l.set j x).drop (j+1+xs.length)=l.drop (j+1+xs.length):=List.drop_set_of_lt (by omega)
    rw [put_eq,ih (Nat.succ j) (l.set j x) (by simp; omega)]
    show (l.set j x).take (j+1)++xs ++ (l.set j x).drop (j+1+xs.length)=_
    rw [e1,e2,List.append_assoc,List.append_assoc,List.append_assoc,List.length_cons,show j+1+xs.length=j + (xs.length+1) from by omega]
    rfl

theorem getD_toArray {α:Type} (l:List α) (q:Nat) (u:α):l.toArray.getD q u=l.getD q u:=by simp [Array.getD_eq_getD_getElem?,List.getD_eq_getElem?_getD]
theorem getD_toList {α:Type} (a:Array α) (q:Nat) (u:α):a.toList.getD q u=a.getD q u:=by simp [Array.getD_eq_getD_getElem?,List.getD_eq_getElem?_getD]

theorem setS_inv {ag:Bool} {k j:Nat} {e y x:D} (hs:setS ag k j e y=x) (hx:x ≠ .junk) (hk:ag=false→k=1) :
    solid y=true ∧ (cells y).length=k∧j+k ≤ (cells e).length∧cells x = (cells e).take j++cells y ++ (cells e).drop (j+k):=by
  have h1:∀ {j:Nat} {y:D},set1 ag j y=x→solid y=true ∧ (cells y).length=k∧j=0∧x=y∧one y=true:=by
    intro j y h
    unfold set1 at h
    have hb:=boolrec_D (b:=Bool.and (Bool.not ag) (Bool.and (Nat.beq j 0) (one y))) (x:=y) (by rw [h]; exact hx)
    rw [hb] at h
    cases ag with
    | true=>cases hb
    | false =>
      have hb2 : (Nat.beq j 0 && one y)=true:=hb
      rw [Bool.and_eq_true] at hb2
      rw [beq_iff] at hb2
      refine ⟨?_,by rw [hk rfl,cells_one hb2.2]; rfl,of_decide_eq_true hb2.1,h.symm,hb2.2⟩
      cases y <;> first | rfl | cases hb2.2
  cases e with
  | agg cs =>
    have h2:setA ag k j cs y=x:=hs
    have h3:∀ {y:D},one y=true→setA ag k j cs y=x→ag=false∧j < cs.length∧x = .agg (cs.set j y):=by
      intro y ho h
      have h4:Bool.rec (motive:=fun _=>D) (setA1 j cs y) .junk ag=x:=by cases y <;> first | exact h | cases ho
      cases ag with
      | true=>exact absurd h4.symm hx
      | false =>
        have h5:setA1 j cs y=x:=h4
        unfold setA1 at h5
        have hb:=boolrec_D (b:=Bool.and (one y) (Nat.blt j (lenL cs))) (x := .agg (put cs j y)) (by rw [h5]; exact hx)
        rw [hb] at h5
        rw [ho,lenL_eq,blt_iff] at hb
        rw [put_eq] at h5
        exact ⟨rfl,of_decide_eq_true hb,h5.symm⟩
    by_cases ho:one y=true
    · obtain ⟨h4,h5,rfl⟩:=h3 ho h2
      have hk1:=hk h4
      subst hk1
      refine ⟨(by cases y <;> first | rfl | cases ho),(by rw [cells_one ho]; rfl),(by show j+1≤cs.length; omega),?_⟩
      rw [cells_one ho]
      show cs.set j y=cs.take j++[y]++cs.drop (j+1)
      rw [List.set_eq_take_append_cons_drop,if_pos h5]
      simp
    · cases y with
      | agg xs =>
        have h4:Bool.rec (motive:=fun _=>D) .junk (setA2 k j cs xs) ag=x:=h2
        cases ag with
        | false=>exact absurd h4.symm hx
        | true =>
          have h5:setA2 k j cs xs=x:=h4
          unfold setA2 at h5
          have hb:=boolrec_D (b:=Bool.and (Nat.beq (lenL xs) k) (Nat.ble (j+k) (lenL cs))) (x := .agg (overwrite xs j cs)) (by rw [h5]; exact hx)
          rw [hb] at h5
          have hb2 : (Nat.beq (lenL xs) k && Nat.ble (j+k) (lenL cs))=true:=hb
          rw [Bool.and_eq_true,lenL_eq,lenL_eq,beq_iff,ble_iff] at hb2
          have h6:=of_decide_eq_true hb2.1
          have h7:=of_decide_eq_true hb2.2
          have h5':D.agg (overwrite xs j cs)=x:=h5
          subst h5'
          refine ⟨rfl,h6,h7,?_⟩
          show overwrite xs j cs=cs.take j++xs++cs.drop (j+k)
          rw [overwrite_eq xs j cs (by omega),h6]
      | junk=>exact absurd (by cases ag <;> rfl) (h2 ▸ hx)
      | tup vs=>exact absurd (by cases ag <;> rfl) (h2 ▸ hx)
      | _=>exact absurd rfl ho
  | _ =>
    obtain ⟨h4,h5,rfl,rfl,h6⟩:=h1 hs
    refine ⟨h4,h5,?_,?_⟩
    · have:=hk
      rw [cells_one h6] at h5
      simp at h5
      subst h5
      exact Nat.le_refl _
    · rw [cells_one h6] at h5 ⊢
      simp at h5
      subst h5
      rfl

section
variable {P:Program} {RC:Nat→Code→DCode→Prop} {Fb:Nat→Prop} {β:Nat→Bk} {U:Us} {N:Nat} {h:Hps} {w:World}

theorem mul_ne {i i' j j' kk k:Nat} (hne:i'≠i) (hj:j+k≤kk) (hj':j' < kk):¬ (i*kk+j≤i'*kk+j'∧i'*kk+j' < i*kk+j+k):=by
  intro ⟨h1,h2⟩
  rcases Nat.lt_or_gt_of_ne hne with hlt | hgt
  · have : (i'+1)*kk≤i*kk:=Nat.mul_le_mul_right _ hlt
    rw [Nat.add_mul,Nat.one_mul] at this
    omega
  · have : (i+1)*kk≤i'*kk:=Nat.mul_le_mul_right _ hgt
    rw [Nat.add_mul,Nat.one_mul] at this
    omega

theorem storeD_ok (I:Inv RC β U Fb h w) {t:TypeId} {ti:TypeInfo} {dd:TypeDesc} (hi:P.info? t=some ti) (hz:aggD dd=false→ti.size=1) {v vx:Value} {x y d:D} {n':Nat} {h':Hps}
    (hv:Rep w (Mk β Fb h) β U v x) (hvx:Rep w (Mk β Fb h) β U vx y) (hl:storeD (aggD dd) ti.size y N h x = .ok d n' h') :
    ∃ a w',v = .pointer (some a) ∧ (storeVar t a vx).run P w = .ok () w'∧d = .junk∧Inv RC β (Ad U N) Fb h' w'∧Adv β U h w β (Ad U N) h' w':=by
  cases hv with
  | @ptr _ r i j hr =>
    have hl':storeR (aggD dd) ti.size r i j y N h (getO h r) = .ok d n' h':=hl
    cases hg:getO h r with
    | row k es =>
      rw [hg] at hl'
      have hl2:storeS r k i es N h (setS (aggD dd) ti.size j (nth es i) y) = .ok d n' h':=hl'
      have hx:setS (aggD dd) ti.size j (nth es i) y ≠ .junk:=fun hn=>by rw [hn] at hl2; cases hl2
      have hl3:ifR (Nat.blt i (lenL es)) (.ok .junk N (setO h r (.row k (put es i (setS (aggD dd) ti.size j (nth es i) y))))) = .ok d n' h':=by
        generalize setS (aggD dd) ti.size j (nth es i) y=q at hl2 hx ⊢
        cases q <;> first | exact hl2 | exact absurd rfl hx
      obtain ⟨h1,h2⟩:=ifR_inv hl3
      rw [lenL_eq,blt_iff] at h1
      have hlt:=of_decide_eq_true h1
      cases h2
      rw [put_eq,nth_eq] at *
      obtain ⟨h3,h4,c,T,h5,h6,h7,h8⟩:=row_elem I hg hlt
      obtain ⟨h9,h10,h11,h12⟩:=setS_inv rfl hx hz
      obtain ⟨h13,h14⟩:=hvx.cells h9
      rw [h4] at h11
      have hp:getO h r ≠ .none:=by rw [hg]; exact fun h=>by cases h
      have hvl:vx.cells.toList.length=ti.size:=by rw [Array.length_toList,h13,h10]
      have hone:∀ u∈vx.cells.toList,u.oneCell'=true:=by
        intro u hu
        obtain ⟨q,hq,rfl⟩:=List.mem_iff_getElem.1 hu
        have hq':q < vx.cells.size:=by simpa using hq
        have := (h14 q (by omega)).1
        simpa [Array.getD,hq'] using this
      obtain ⟨fz,h5,hfz⟩:=h5
      have hst:=run_storeCells_atZ P (β r).b (i*k+j) T fz vx.cells.toList 0 c w h5 hfz (by rw [hvl]; omega) hone
      rw [Nat.add_zero] at hst
      have hlc:i*k+j+vx.cells.toList.length≤c.toList.length:=by rw [hvl,Array.length_toList]; omega
      obtain ⟨nc,hnc⟩:∃ nc,nc = (c.toList.take (i*k+j)++vx.cells.toList++c.toList.drop (i*k+j+vx.cells.toList.length)).toArray:=⟨_,rfl⟩
      have ecell:∀ q,nc.getD q undef=if i*k+j≤q∧q < i*k+j+ti.size then vx.cells.getD (q - (i*k+j)) undef else c.getD q undef:=by
        intro q
        rw [hnc,getD_toArray,getD_splice c.toList vx.cells.toList undef (i*k+j) q hlc,getD_toList,getD_toList,hvl]
      have esize:nc.size=c.size:=by
        rw [hnc,List.size_toArray]
        simp only [List.length_append,List.length_take,List.length_drop,Array.length_toList]
        rw [Array.length_toList] at hlc
        rw [Array.length_toList] at hlc
        omega
      rw [← hnc] at hst
      clear hnc
      have hA:=Adv.turn (N:=N) I hp (.row k (es.set i (setS (aggD dd) ti.size j (es.getD i .junk) y))) (w':=w.setRow (β r).b nc)
        rfl rfl rfl (by simp [World.setRow]) (fun b hb=>setRow_other w _ b _ hb)
      refine ⟨_,w.setRow (β r).b nc,rfl,?_,rfl,?_,hA⟩
      · unfold storeVar
        rw [Sem.run_bind,run_sizeOf hi]
        simp only [Result.andThen_ok]
        rw [if_neg (by rw [h13,h10]; simp),h3]
        exact hst
      · refine Inv.turn I hp _ rfl rfl rfl (by simp [World.setRow]) (fun b hb=>setRow_other w _ b _ hb) ?_
        have ho:=I.obj r
        rw [hg] at ho
        obtain ⟨g1,g2,g3,c',T',g4,g5,g6⟩:=ho
        obtain ⟨fz2,g4,_⟩:=g4
        rw [h5] at g4
        cases g4
        refine ⟨g1,by rw [List.length_set]; exact g2,fun e he=>?_,nc,T,⟨fz,setRow_heap w _ c _ T _ h5,by rw [esize]; exact hfz⟩,esize.trans g5,fun i' hi' j' hj'=>?_⟩
        · rcases List.mem_or_eq_of_mem_set he with he | rfl
          · exact g3 e he
          · rw [h12]
            simp only [List.length_append,List.length_take,List.length_drop,h4,h10]
            omega
        · have hi2:i' < es.length:=by rw [List.length_set] at hi'; exact hi'
          rw [ecell]
          by_cases hii:i'=i
          · subst hii
            have eel : ((es.set i' (setS (aggD dd) ti.size j (es.getD i' .junk) y)).getD i' .junk)=setS (aggD dd) ti.size j (es.getD i' .junk) y:=by
              rw [List.getD_eq_getElem?_getD,List.getElem?_set_self hlt]
              rfl
            rw [eel,h12]
            have hsp:=getD_splice (cells (es.getD i' .junk)) (cells y) .junk j j' (by rw [h10,h4]; exact h11)
            rw [h10] at hsp
            rw [hsp]
            by_cases hr:j≤j'∧j' < j+ti.size
            · rw [if_pos (by omega),if_pos hr,show i'*k+j' - (i'*k+j)=j' - j from by omega]
              exact ⟨(h14 (j' - j) (by omega)).1,(h14 (j' - j) (by omega)).2.adv hA (Sub.refl _) _ (Sub.ad _ _)⟩
            · rw [if_neg (by omega),if_neg hr]
              exact ⟨(g6 i' hi2 j' hj').1,(g6 i' hi2 j' hj').2.adv hA (Sub.refl _) _ (Sub.ad _ _)⟩
          · have eel : ((es.set i (setS (aggD dd) ti.size j (es.getD i .junk) y)).getD i' .junk)=es.getD i' .junk:=by
              rw [List.getD_eq_getElem?_getD,List.getElem?_set_ne (fun h=>hii h.symm),← List.getD_eq_getElem?_getD]
            rw [eel,if_neg (mul_ne hii h11 hj')]
            exact ⟨(g6 i' hi2 j' hj').1,(g6 i' hi2 j' hj').2.adv hA (Sub.refl _) _ (Sub.ad _ _)⟩
    | none=>rw [hg] at hl'; cases hl'
    | map es=>rw [hg] at hl'; cases hl'
    | mit=>rw [hg] at hl'; cases hl'
    | loop=>rw [hg] at hl'; cases hl'
  | _=>cases hl

end
end Go.Proofs.Ytpbpmpabndgeeaa
