/- The statement that ranges over a function; calls as operations. No condition. -/
import Derived.Test.YtpbpmpabndgeeaaA18

/- Rounds of a range over a function,and the statement itself. No condition. -/
set_option linter.unusedSimpArgs false
set_option linter.unusedVariables false
namespace Go.Proofs.Ytpbpmpabndgeeaa
open Go

section
variable {U:Us} {P:Program} {RC:Nat→Code→DCode→Prop} {s0:Nat} {ro:Option Nat} {m:Nat} {Fb:Nat→Prop} {β:Nat→Bk} {n:Nat} {h:Hps} {e:Tr} {a:Act} {w:World}

theorem ObOk.gen {U:Us} {w':World} {M M':Nat→Prop} (hs:w.heap.size≤w'.heap.size) (hb:∀ (b:Nat) c T fr,w.heap[b]? = some (Obj.cells c T fr)→¬ M b→w'.heap[b]? = w.heap[b]?) (hM:∀ b,M' b→M b) {o:Ob} {B:Bk}
    (hB:w'.heap[B.b]? = w.heap[B.b]?) (H:ObOk RC w M β U o B):ObOk RC w' M' β U o B:=by
  have hR:∀ {V:Us} {v d},Rep w M β V v d→Rep w' M' β V v d:=fun hr=>hr.monoC hs hb (fun b _ h=>hM b h) _ (Sub.refl _) (fun _ _=>rfl)
  cases o with
  | none=>trivial
  | row k es =>
    obtain ⟨h1,h2,h3,c,T,h4,h5,h6⟩:=H
    exact ⟨h1,h2,h3,c,T,h4.by hB,h5,fun i hi j hj=>⟨(h6 i hi j hj).1,hR (h6 i hi j hj).2⟩⟩
  | map es =>
    obtain ⟨ents,clock,h1,hst,h2,h3⟩:=H
    exact ⟨ents,clock,hB.trans h1,hst,h2,fun i hi=>⟨hR (h3 i hi).1,hR (h3 i hi).2⟩⟩
  | mit q =>
    obtain ⟨hq,since,h1⟩:=H
    exact ⟨hq,since,hB.trans h1⟩
  | loop k env ps a b j =>
    obtain ⟨L,h1,h2,h3,h4,h5⟩:=H
    exact ⟨L,hB.trans h1,h2,h3,⟨h4.1,fun t ht=>hR (h4.2 t ht)⟩,h5⟩
theorem Inv.gen {w':World} (hs:w.heap.size≤w'.heap.size) (hb:∀ (b:Nat) c T fr,w.heap[b]? = some (Obj.cells c T fr)→¬ Mk β Fb h b→w'.heap[b]? = w.heap[b]?)
    (ht:∀ r,getO h r ≠ .none→w'.heap[(β r).b]? = w.heap[(β r).b]?) (I:Inv RC β U Fb h w):Inv RC β U Fb h w':=by
  refine ⟨I.key,fun r hr=>Nat.lt_of_lt_of_le (I.lt r hr) hs,fun r=>?_,I.inj,fun b hb=>⟨Nat.lt_of_lt_of_le (I.frm b hb).1 hs,(I.frm b hb).2⟩⟩
  by_cases hr:getO h r = .none
  · rw [hr]; trivial
  · exact ObOk.gen hs hb (fun _ h=>h) (ht r hr) (I.obj r)
theorem EnvOk.gen {w':World} {tmps:Array Value} (hs:w.heap.size≤w'.heap.size) (hb:∀ (b:Nat) c T fr,w.heap[b]? = some (Obj.cells c T fr)→¬ Mk β Fb h b→w'.heap[b]? = w.heap[b]?) (E:EnvOk w (Mk β Fb h) β (Lt n) tmps e):EnvOk w' (Mk β Fb h) β (Lt n) tmps e :=
  ⟨E.1,fun t ht => (E.2 t ht).monoC hs hb (fun _ _ h=>h) _ (Sub.refl _) (fun _ _=>rfl)⟩

def Hold (Fb:Nat→Prop) (l:Nat):Nat→Prop:=fun b=>Fb b∨b=l
theorem Mk_hold (I:Inv RC β U Fb h w) {r:Nat} (hp:getO h r ≠ .none) (b:Nat):Mk β (Hold Fb (β r).b) (delO h r) b↔Mk β Fb h b:=by
  constructor
  · rintro ((hb | rfl) | ht)
    · exact .inl hb
    · exact .inr ⟨r,hp,rfl⟩
    · exact .inr (Tk_del ht)
  · rintro (hb | ⟨q,hq,hb⟩)
    · exact .inl (.inl hb)
    · by_cases e:q=r
      · subst e; exact .inl (.inr hb.symm)
      · exact .inr ⟨q,by rw [getO_delO,if_neg e]; exact hq,hb⟩
theorem Inv.hold (I:Inv RC β U Fb h w) {r:Nat} (hp:getO h r ≠ .none):Inv RC β U (Hold Fb (β r).b) (delO h r) w:=by
  have hnt:¬ Tk β (delO h r) (β r).b:=by
    rintro ⟨q,hq,e⟩
    obtain ⟨h1,h2⟩:=getO_del_none hq
    exact h1 (I.inj q r (h2 ▸ hq) hp e)
  refine ⟨fun q hq=>I.key q ((getO_del_none hq).2 ▸ hq),fun q hq=>I.lt q ((getO_del_none hq).2 ▸ hq),fun q=>?_,fun q q' hq hq' e=>I.inj q q' ((getO_del_none hq).2 ▸ hq) ((getO_del_none hq').2 ▸ hq') e,fun b hb=>?_⟩
  · by_cases hq:getO (delO h r) q = .none
    · rw [hq]; trivial
    · rw [(getO_del_none hq).2]
      exact ObOk.gen (Nat.le_refl _) (fun _ _ _ _ _ _=>rfl) (fun b hb => (Mk_hold I hp b).1 hb) rfl (I.obj q)
  · rcases hb with hb | rfl
    · exact ⟨(I.frm b hb).1,fun ht => (I.frm b hb).2 (Tk_del ht)⟩
    · exact ⟨I.lt r hp,hnt⟩
theorem Inv.release {w':World} {r:Nat} {x:Ob} (I:Inv RC β U (Hold Fb (β r).b) h w) (hnf:¬ Fb (β r).b) (hr:U r) (hs:w'.heap.size=w.heap.size) (ho:∀ b,b ≠ (β r).b→w'.heap[b]? = w.heap[b]?)
    (hx:ObOk RC w' (Mk β Fb ((r,x)::h)) β U x (β r)):Inv RC β U Fb ((r,x)::h) w':=by
  have hnt := (I.frm _ (.inr rfl)).2
  have hsub:∀ b,Mk β Fb ((r,x)::h) b→Mk β (Hold Fb (β r).b) h b:=by
    rintro b (hb | ⟨q,hq,e⟩)
    · exact .inl (.inl hb)
    · rw [getO_cons] at hq
      by_cases e1:r=q
      · subst e1; exact .inl (.inr e.symm)
      · rw [if_neg e1] at hq; exact .inr ⟨q,hq,e⟩
  have hne:∀ q,r≠q→getO ((r,x)::h) q ≠ .none→getO h q ≠ .none ∧ (β q).b ≠ (β r).b:=by
    intro q e hq
    rw [getO_cons,if_neg e] at hq
    exact ⟨hq,fun e2=>hnt ⟨q,hq,e2⟩⟩
  refine ⟨fun q hq=>?_,fun q hq=>?_,fun q=>?_,fun q q' hq hq' e=>?_,fun b hb=>?_⟩
  · by_cases e:r=q
    · exact e ▸ hr
    · exact I.key q (hne q e hq).1
  · rw [hs]
    by_cases e:r=q
    · subst e; exact (I.frm _ (.inr rfl)).1
    · exact I.lt q (hne q e hq).1
  · rw [getO_cons]
    by_cases e:r=q
    · subst e; rw [if_pos rfl]; exact hx
    · rw [if_neg e]
      by_cases hq:getO h q = .none
      · rw [hq]; trivial
      · exact ObOk.gen (Nat.le_of_eq hs.symm) (fun b c T fr _ hm=>ho b (fun e2=>hm (.inl (.inr e2)))) hsub (ho _ (fun e2=>hnt ⟨q,hq,e2⟩)) (I.obj q)
  · by_cases e1:r=q
    · by_cases e2:r=q'
      · rw [← e1,← e2]
      · subst e1; exact absurd e.symm (hne q' e2 hq').2
    · by_cases e2:r=q'
      · subst e2; exact absurd e (hne q e1 hq).2
      · exact I.inj q q' (hne q e1 hq).1 (hne q' e2 hq').1 e
  · refine ⟨by rw [hs]; exact (I.frm b (.inl hb)).1,?_⟩
    rintro ⟨q,hq,e⟩
    by_cases e1:r=q
    · subst e1
      exact hnf (e ▸ hb)
    · exact (I.frm b (.inl hb)).2 ⟨q,(hne q e1 hq).1,e⟩

theorem run_getL {l:Nat} {L:Loop} (hb:w.heap[l]? = some (.loop L)) : (Instr.getLoop l).run P w = .ok L w:=by simp [Instr.getLoop,getObj,Sem.run,hb]
theorem run_setL {l:Nat} {L:Loop} (o:Obj) (hb:w.heap[l]? = some (.loop L)) : (setObj l o).run P w = .ok () { w with heap:=w.heap.setIfInBounds l o }:=by simp [setObj,Sem.run,hb]
theorem run_beginRound {l:Nat} {L:Loop} (hb:w.heap[l]? = some (.loop L)) (hs:L.state = .ready) : (Instr.beginRound l).run P w = .ok () { w with heap:=w.heap.setIfInBounds l (.loop { L with state := .busy }) }:=by
  unfold Instr.beginRound
  simp only [Sem.run_bind,run_getL hb,Result.andThen_ok,run_setL _ hb,hs,Sem.run_pure]
theorem run_endRound {l:Nat} {L:Loop} (hb:w.heap[l]? = some (.loop L)) (j:Option Code) : (Instr.endRound l j).run P w = .ok (.bool j.isNone) { w with heap:=w.heap.setIfInBounds l (.loop { L with state:=if j.isNone then .ready else .done,pending:=j }) }:=by
  unfold Instr.endRound
  simp only [Sem.run_bind,run_getL hb,Result.andThen_ok,run_setL _ hb,Sem.run_pure]
theorem run_endLoop {l:Nat} {L:Loop} (hb:w.heap[l]? = some (.loop L)) (hs:L.state ≠ .busy) : (Instr.endLoop l).run P w = .ok L.pending { w with heap:=w.heap.setIfInBounds l (.loop { L with state := .exhausted }) }:=by
  unfold Instr.endLoop
  have : (L.state == .busy)=false:=by cases hst:L.state <;> first | rfl | exact absurd hst hs
  simp only [Sem.run_bind,run_getL hb,Result.andThen_ok,this,Bool.false_eq_true,if_false,Sem.run_pure,run_setL _ hb]
theorem set_ne {l b:Nat} {o:Obj} (h:b≠l) : (w.heap.setIfInBounds l o)[b]? = w.heap[b]? := Array.getElem?_setIfInBounds_ne (fun e=>h e.symm)
theorem set_eq {l:Nat} {o o':Obj} (h:w.heap[l]? = some o) : (w.heap.setIfInBounds l o')[l]? = some o':=by
  have:=lt_of_some h
  simp [this]

theorem putAll_ok {M:Nat→Prop}:∀ (ps:List Nat) (vs:List Value) (ds:List D) (tmps:Array Value) (e:Tr) {x:Ex} {e':Tr} {n':Nat} {h':Hps},EnvOk w M β (Lt n) tmps e → (∀ p,p∈ps→p < tmps.size)→vs.length=ds.length →
    (∀ i,i < ds.length→Rep w M β (Lt n) (vs.getD i undef) (ds.getD i .junk))→putAll (ps.map po) ds e = .ok x e' n' h' →
    ps.length=vs.length∧EnvOk w M β (Lt n) ((ps.zip vs).foldl (fun tmps (p:Nat×Value)=>tmps.setIfInBounds p.1 p.2) tmps) e' ∧ ((ps.zip vs).foldl (fun tmps (p:Nat×Value)=>tmps.setIfInBounds p.1 p.2) tmps).size=tmps.size:=by
  intro ps
  induction ps with
  | nil =>
    intro vs ds tmps e x e' n' h' E _ hl _ hd
    cases ds with
    | nil =>
      have:vs=[]:=List.length_eq_zero_iff.1 hl
      subst this
      cases hd
      exact ⟨rfl,E,rfl⟩
    | cons d ds=>cases hd
  | cons p ps ih =>
    intro vs ds tmps e x e' n' h' E hp hl hr hd
    cases ds with
    | nil=>cases hd
    | cons d ds =>
      cases vs with
      | nil=>cases hl
      | cons v vs =>
        have hd2:putAll (ps.map po) ds (putT (po p) d e) = .ok x e' n' h':=hd
        have hp0:=hp p (by simp)
        have hv:=hr 0 (by simp)
        obtain ⟨g1,g2,g3⟩:=ih vs ds (tmps.setIfInBounds p v) (putT (po p) d e) (E.put hv (Nat.lt_trans hp0 E.1)) (fun q hq=>by simpa using hp q (by simp [hq])) (by simpa using hl) (fun i hi=>by simpa using hr (i+1) (by simp; omega)) hd2
        exact ⟨by simp [g1],g2,by simpa using g3⟩

theorem round_ok {X:RunF} (hX:CodeOk P X) {r:Nat} {vs:Array Value} {ds:List D} {d:D} {n':Nat} {h':Hps} (I:Inv (RCc P) β (Lt n) Fb h w) (hl:vs.size=ds.length) (hr:∀ i,i < ds.length→Rep w (Mk β Fb h) β (Lt n) (vs.getD i undef) (ds.getD i .junk))
    (hd:round X r n h ds (getO h r) = .ok d n' h') :
    ∃ L:Loop,w.heap[(β r).b]? = some (.loop L)∧vs.size=L.params.size∧RoundIn (FR ro) 0 P (β r).b L.fn ((L.params.zip vs).foldl (fun tmps (t,a)=>tmps.setIfInBounds t a) L.tmps) L.assign L.body w (CallPost P Fb β n h w d n' h'):=by
  have ho:=I.obj r
  cases hg:getO h r with
  | loop k env ps a b j =>
    rw [hg] at hd ho
    have hp:getO h r ≠ .none:=by rw [hg]; exact fun h=>by cases h
    obtain ⟨h1,h2⟩:=ifR_inv (show ifR (isSkip j) (begRound X r k n h env ps a b (putAll ps ds env)) = .ok d n' h' from hd)
    obtain ⟨L,g1,g2,g3,g4,g5,g6,mL,g7,g8,g9⟩:=ho
    rw [h1] at g2
    simp only [if_true] at g2
    cases hpa:putAll ps ds env with
    | bad=>rw [hpa] at h2; cases h2
    | ok x0 e0 n0 h0 =>
      rw [hpa] at h2
      replace h2:midRound X r k env ps a b (X a e0 n (delO h r)) = .ok d n' h':=h2
      rw [← g5] at hpa
      obtain ⟨k1,k2,k3⟩:=putAll_ok L.params.toList vs.toList ds L.tmps env (g4.up (Sub.cut _ _)) (fun p hp=>g6 p (Array.mem_toList_iff.1 hp)) (by simpa using hl) (fun i hi=>by rw [getD_toList]; exact hr i hi) hpa
      have hzip : (L.params.zip vs).foldl (fun tmps (t,a)=>tmps.setIfInBounds t a) L.tmps = (L.params.toList.zip vs.toList).foldl (fun tmps (p:Nat×Value)=>tmps.setIfInBounds p.1 p.2) L.tmps:=by
        rw [← Array.toList_zip,Array.foldl_toList]
      refine ⟨L,g1,by simpa using k1.symm,?_⟩
      rw [hzip]
      cases hxa:X a e0 n (delO h r) with
      | bad=>rw [hxa] at h2; cases h2
      | ok x1 e1 n1 h1' =>
        rw [hxa] at h2
        cases x1 with
        | exit i=>cases h2
        | ret=>cases h2
        | normal =>
        replace h2:lastRound r k env ps a b (X b e1 n1 h1') = .ok d n' h':=h2
        have hrn:r < n:=I.key r hp
        have hnF:¬ Fb (β r).b:=fun hf => (I.frm _ hf).2 ⟨r,hp,rfl⟩
        have I0:=I.hold hp
        have hMk:=fun b=>Mk_hold (β:=β) I hp b
        have hlt:=lt_of_some g1
        have hnt0:¬ Tk β (delO h r) (β r).b := (I0.frm _ (.inr rfl)).2
        have E0:EnvOk w (Mk β (Hold Fb (β r).b) (delO h r)) β (Lt n) ((L.params.toList.zip vs.toList).foldl (fun tmps (p:Nat×Value)=>tmps.setIfInBounds p.1 p.2) L.tmps) e0 :=
          ⟨k2.1,fun t ht => (k2.2 t ht).monoC (Nat.le_refl _) (fun _ _ _ _ _ _=>rfl) (fun b _ hm => (hMk b).1 hm) _ (Sub.refl _) (fun _ _=>rfl)⟩
        have S0:St P 0 (some (β r).b) mL (Hold Fb (β r).b) β n (delO h r) e0 { tmps := (L.params.toList.zip vs.toList).foldl (fun tmps (p:Nat×Value)=>tmps.setIfInBounds p.1 p.2) L.tmps,defers:=[] } w :=
          ⟨I0,E0,by rw [k3]; exact g7,⟨[],rfl,List.nodup_nil,(fun r hr=>by cases hr)⟩,(fun l hl=>by cases hl; exact ⟨L,g1,hnt0⟩),Nat.zero_le _⟩
        refine roundIn_of_wpIn trivial ?_
        rw [← g8] at hxa
        refine hX (Q:=Exit.then _ _) S0 hxa (fun β1 a1 w1 S1 A1=>?_)
        have hb1:w1.heap[(β r).b]? = some (.loop L) := (A1.keep _ hlt hnt0).trans g1
        have hβ1:β1 r=β r:=A1.same r hrn
        have hnt1:¬ Tk β1 h1' (β r).b:=fun ht=>hnt0 (A1.shr _ hlt ht)
        refine ⟨_,run_beginRound hb1 g2,?_⟩
        -- the record is busy now
        have hcell2:∀ (b:Nat) c T fr,w1.heap[b]? = some (Obj.cells c T fr) → (w1.heap.setIfInBounds (β r).b (.loop { L with state := .busy }))[b]? = w1.heap[b]? := by
          intro b c T fr hb
          exact set_ne (fun e=>by rw [e,hb1] at hb; cases hb)
        have S2:St P 0 (some (β r).b) mL (Hold Fb (β r).b) β1 n1 h1' e1 a1 { w1 with heap:=w1.heap.setIfInBounds (β r).b (.loop { L with state := .busy }) }:=by
          refine ⟨S1.inv.gen (by simp) (fun b c T fr hb _=>hcell2 b c T fr hb) (fun q hq=>set_ne (fun e=>hnt1 ⟨q,hq,e⟩)),S1.env.gen (by simp) (fun b c T fr hb _=>hcell2 b c T fr hb),S1.sz,?_,?_,Nat.zero_le _⟩
          · obtain ⟨rs,d1,d2,d3⟩:=S1.dfr
            refine ⟨rs,d1,d2,fun q hq=>⟨(d3 q hq).1,?_,(d3 q hq).2.2⟩⟩
            have hq2 := (d3 q hq).2.1
            exact (set_ne (fun e=>by rw [e,hb1] at hq2; cases hq2)).trans hq2
          · intro l hl
            cases hl
            exact ⟨_,set_eq hb1,hnt1⟩
        cases hxb:X b e1 n1 h1' with
        | bad=>rw [hxb] at h2; cases h2
        | ok x2 e2 n2 h2' =>
          rw [hxb] at h2
          replace h2:endRound r k env ps a b n2 h2' x2 = .ok d n' h':=h2
          rw [← g9] at hxb
          refine hX (ro:=some (β r).b) S2 hxb (fun β2 a2 w3 S3 A2=>?_)
          have hlt2 : (β r).b < w1.heap.size:=lt_of_some hb1
          have hb3:w3.heap[(β r).b]? = some (.loop { L with state := .busy }) := (A2.keep _ (by simpa using hlt2) hnt1).trans (set_eq hb1)
          have hβ2:β2 r=β r := (A2.same r (A1.num r hrn)).trans hβ1
          have hrn2:r < n2:=A2.num r (A1.num r hrn)
          have fin:∀ (jc:Option Code) (j':Jp),jc.isNone=isSkip j'→jc=jpOf j'→d = .bool (isSkip j')→n2=n'→h' = (r,.loop k env ps a b j')::h2' →
              ∃ v w',(Instr.endRound (β r).b jc).run P w3 = .ok v w'∧CallPost P Fb β n h w d n' h' (.returned v) w':=by
            intro jc j' c1 c2 c3 c4 c5
            subst c3
            subst c4
            subst c5
            refine ⟨_,_,run_endRound hb3 jc,_,β2,rfl,c1 ▸ .bool,?_⟩
            have A:Adv β (Lt n) h w β2 (Lt n2) ((r,.loop k env ps a b j')::h2') { w3 with heap:=w3.heap.setIfInBounds (β r).b (.loop { L with state:=if jc.isNone then .ready else .done,pending:=jc }) }:=by
              refine ⟨A2.os.trans A1.os,A2.tape.trans A1.tape,A2.output.trans A1.output,?_,A1.num.trans A2.num,fun q hq => (A2.same q (A1.num q hq)).trans (A1.same q hq),fun b hb hnt=>?_,fun b hb ht=>?_⟩
              · have e1:=A1.size
                have e2:=A2.size
                simp at e2 ⊢
                omega
              · have hne:b ≠ (β r).b:=fun e=>hnt (e ▸ ⟨r,hp,rfl⟩)
                have hnt':¬ Tk β (delO h r) b:=fun ht=>hnt (Tk_del ht)
                have hb1':b < w1.heap.size:=Nat.lt_of_lt_of_le hb A1.size
                show (w3.heap.setIfInBounds _ _)[b]? = _
                rw [set_ne hne,A2.keep b (by simpa using hb1') (fun ht=>hnt' (A1.shr b hb ht))]
                show (w1.heap.setIfInBounds _ _)[b]? = _
                rw [set_ne hne,A1.keep b hb hnt']
              · obtain ⟨q,hq,e⟩:=ht
                rw [getO_cons] at hq
                by_cases e1:r=q
                · subst e1; exact ⟨r,hp,by rw [← hβ2]; exact e⟩
                · rw [if_neg e1] at hq
                  exact Tk_del (A1.shr b hb (A2.shr b (by have:=A1.size; simp; omega) ⟨q,hq,e⟩))
            refine ⟨?_,A⟩
            have I3:=S3.inv
            rw [← hβ2] at I3 hnF
            refine Inv.release I3 hnF hrn2 (by simp) (fun b hb=>set_ne (fun e=>hb (e.trans (by rw [hβ2])))) ?_
            refine ⟨{ L with state:=if jc.isNone then .ready else .done,pending:=jc },by rw [hβ2]; exact set_eq hb3,?_,c2,⟨g4.1,fun t ht => (g4.2 t ht).adv A (Sub.cut _ _) _ (Sub.cuts A.num _)⟩,g5,g6,mL,g7,g8,g9⟩
            show (if jc.isNone=true then LoopState.ready else .done)=_
            rw [c1]
          cases x2 with
          | normal=>cases h2; exact fin none .none rfl rfl rfl rfl rfl
          | exit i=>cases h2; exact fin (some (.exit i)) (.exit i) rfl rfl rfl rfl rfl
          | ret=>cases h2; exact fin (some .ret) .ret rfl rfl rfl rfl rfl
  | _=>rw [hg] at hd; cases hd
end
end Go.Proofs.Ytpbpmpabndgeeaa

/- The statement that ranges over a function; calls as operations. No condition. -/
namespace Go.Proofs.Ytpbpmpabndgeeaa
open Go

section
variable {U:Us} {P:Program} {K:Nat→Bool} {RC:Nat→Code→DCode→Prop} {s0:Nat} {ro:Option Nat} {m:Nat} {Fb:Nat→Prop} {β:Nat→Bk} {n:Nat} {h:Hps} {e:Tr} {a:Act} {w:World}

def RepL (w:World) (M:Nat→Prop) (β:Nat→Bk) (U:Us) (vs:Array Value) (ds:List D):Prop:=vs.size=ds.length∧∀ i,i < ds.length→Rep w M β U (vs.getD i undef) (ds.getD i .junk)
theorem RepL.app {M:Nat→Prop} {U:Us} {vs ws:Array Value} {ds es:List D} (h1:RepL w M β U vs ds) (h2:RepL w M β U ws es):RepL w M β U (vs++ws) (ds++es):=by
  refine ⟨by simp [h1.1,h2.1],fun i hi=>?_⟩
  by_cases hi1:i < ds.length
  · have e1 : (vs++ws).getD i undef=vs.getD i undef:=by simp [Array.getD_eq_getD_getElem?,Array.getElem?_append_left (show i < vs.size by rw [h1.1]; exact hi1)]
    have e2 : (ds++es).getD i .junk=ds.getD i .junk:=by simp [List.getD_eq_getElem?_getD,List.getElem?_append_left hi1]
    rw [e1,e2]; exact h1.2 i hi1
  · have e1 : (vs++ws).getD i undef=ws.getD (i - ds.length) undef:=by
      simp [Array.getD_eq_getD_getElem?,Array.getElem?_append_right (show vs.size≤i by rw [h1.1]; omega),h1.1]
    have e2 : (ds++es).getD i .junk=es.getD (i - ds.length) .junk:=by simp [List.getD_eq_getElem?_getD,List.getElem?_append_right (Nat.le_of_not_lt hi1)]
    rw [e1,e2]; exact h2.2 _ (by rw [List.length_append] at hi; omega)
theorem RepL.one {M:Nat→Prop} {U:Us} {v:Value} {d:D} (hv:Rep w M β U v d):RepL w M β U #[v] [d]:=by
  refine ⟨rfl,fun i hi=>?_⟩
  have:i=0:=by simp at hi; omega
  subst this
  exact hv
theorem RepL.adv {β':Nat→Bk} {U U':Us} {h':Hps} {w':World} (x:Adv β U h w β' U' h' w') {vs:Array Value} {ds:List D} (H:RepL w (Mk β Fb h) β U vs ds):RepL w' (Mk β' Fb h') β' U' vs ds :=
  ⟨H.1,fun i hi => (H.2 i hi).adv x (Sub.refl _) _ x.num⟩

theorem enter_ok (S:St P s0 ro m Fb β n h e a w) (fn:FuncId) (ps:Array Tmp) (assign body:Code) :
    ∃ (l:Nat) (mk:List Deferred) (w1:World) (df:Nat),(Instr.enterLoop fn a.tmps ps assign body ro).run P w = .ok (l,mk) w1∧w1.os=w.os∧w1.tape=w.tape∧w1.output=w.output∧w.heap.size≤l∧w1.heap.size=l+1 ∧
      w1.heap[l]? = some (.loop { state := .ready,pending:=none,fn,tmps:=a.tmps,params:=ps,assign,body,defers:=df }) ∧ (∀ b,b < w.heap.size→w1.heap[b]? = w.heap[b]?) ∧
      (mk=[]∨∃ r0,mk=[mark1 r0]∧w.heap.size≤r0∧r0 < l∧w1.heap[r0]? = some (.deferred (some []))):=by
  have hpush:∀ (w:World) (o:Obj),(newObj o).run P w = .ok w.heap.size { w with heap:=w.heap.push o }:=fun w o=>rfl
  cases ro with
  | none =>
    refine ⟨w.heap.size+1,[mark1 w.heap.size],{ w with heap := (w.heap.push (.deferred (some []))).push (.loop { state := .ready,pending:=none,fn,tmps:=a.tmps,params:=ps,assign,body,defers:=w.heap.size }) },w.heap.size,?_,rfl,rfl,rfl,by omega,by simp,?_,fun b hb=>?_,.inr ⟨w.heap.size,rfl,Nat.le_refl _,by omega,?_⟩⟩
    · simp [Instr.enterLoop,Sem.run_bind,hpush,mark1]
      rfl
    · rw [Array.getElem?_push,if_pos (by simp)]
    · rw [Array.getElem?_push,if_neg (by simp; omega),Array.getElem?_push,if_neg (by omega)]
    · rw [Array.getElem?_push,if_neg (by simp),Array.getElem?_push,if_pos rfl]
  | some l' =>
    obtain ⟨L,h1,h2⟩:=S.rnd l' rfl
    refine ⟨w.heap.size,[],{ w with heap:=w.heap.push (.loop { state := .ready,pending:=none,fn,tmps:=a.tmps,params:=ps,assign,body,defers:=L.defers }) },L.defers,?_,rfl,rfl,rfl,Nat.le_refl _,by simp,by simp,fun b hb=>?_,.inl rfl⟩
    · simp [Instr.enterLoop,Sem.run_bind,run_getL h1,hpush]
      try rfl
    · rw [Array.getElem?_push,if_neg (by omega)]

theorem run_callFunc {f:FuncId} {fn:Func} {c:Code} {args:Array Value} (hf:P.funcs[f]? = some fn) (hb:fn.body=some c) (hn:fn.name ≠ "runtime.NumGoroutine") : (callFunc f args).run P w = .ok (.enter f args) w:=by
  have hn2 : (fn.name == "runtime.NumGoroutine")=false:=by simpa using hn
  have hb2:fn.body.isNone=false:=by rw [hb]; rfl
  unfold callFunc
  rw [Sem.run_bind,run_program,Result.andThen_ok,hf]
  simp only [hn2,hb2,Bool.false_eq_true,if_false,Sem.run_pure]

theorem fn_inv {M:Nat→Prop} {U:Us} {v:Value} {g:Nat} {x c:List D} (hv:Rep w M β U v (.fn g x c)):∃ A C,v = .func (.func g) A C∧RepL w M β U A x∧RepL w M β U C c:=by
  cases hv with
  | fn f A C first capt ha hc hra hrc=>exact ⟨A,C,rfl,⟨ha,hra⟩,⟨hc,hrc⟩⟩

theorem rng_ok {X:RunF} (hX:CodeOk P X) (hXb:∀ e n h,X .bad e n h = .bad) (S:St P s0 ro m Fb β n h e a w) {g:Operand} {ps:Array Tmp} {assign body:Code} (hps:∀ p,p∈ps→p < m) {x:Ex} {e':Tr} {n':Nat} {h':Hps} {Q:Exit→Act→World→Prop}
    (hd:rngF (cFk K P) X e n h (ps.toList.map po) (cCode P m assign) (cCode P m body) (ev e (cO m g)) = .ok x e' n' h')
    (hQ:∀ β' a' w',St P s0 ro m Fb β' n' h' e' a' w'→Adv β (Lt n) h w β' (Lt n') h' w'→Q (exOf x) a' w') : (Code.rangeFunc g ps assign body).wpIn (FR ro) 0 P Q a w:=by
  have hev:=ev_ok S.env S.sz g
  revert hd hev
  generalize ev e (cO m g)=G
  intro hd hev
  cases G with
  | fn gf fa fc =>
    obtain ⟨A,C,hg,hA,hC⟩:=fn_inv hev
    replace hd:rngK e n (callFn X (n+1) ((n,.loop n e (ps.toList.map po) (cCode P m assign) (cCode P m body) .none)::h) (appL fa (.yld n::fc)) (cFk K P gf)) = .ok x e' n' h':=hd
    cases hcall:callFn X (n+1) ((n,.loop n e (ps.toList.map po) (cCode P m assign) (cCode P m body) .none)::h) (appL fa (.yld n::fc)) (cFk K P gf) with
    | bad=>rw [hcall] at hd; cases hd
    | ok d1 n1 h1 =>
      rw [hcall] at hd
      replace hd:afterRng e n n1 h1 (getO h1 n) = .ok x e' n' h':=hd
      refine wpIn_rangeFunc (fun fn _=>?_)
      obtain ⟨l,mk,w1,df,r1,r2,r3,r4,r5,r6,r7,r8,r9⟩:=enter_ok S fn ps assign body
      have hnew:∀ q,getO ((n,Ob.loop n e (ps.toList.map po) (cCode P m assign) (cCode P m body) .none)::h) q ≠ .none→q≠n→getO h q ≠ .none∧upd β n ⟨l,0,0⟩ q=β q:=by
        intro q hq hne
        rw [getO_cons,if_neg (fun e=>hne e.symm)] at hq
        exact ⟨hq,upd_ne _ _ hne⟩
      have A1:Adv β (Lt n) h w (upd β n ⟨l,0,0⟩) (Lt (n+1)) ((n,.loop n e (ps.toList.map po) (cCode P m assign) (cCode P m body) .none)::h) w1:=by
        refine ⟨r2,r3,r4,by omega,Sub.lt (Nat.le_succ _),fun q hq=>upd_ne _ _ (Nat.ne_of_lt hq),fun b hb _=>r8 b hb,fun b hb ht=>?_⟩
        obtain ⟨q,hq,e1⟩:=ht
        by_cases e2:q=n
        · subst e2; rw [upd_same] at e1; simp at e1; omega
        · obtain ⟨h1,h2⟩:=hnew q hq e2
          rw [h2] at e1
          exact ⟨q,h1,e1⟩
      have hsym:∀ q,q≠n→n≠q:=fun q h e=>h e.symm
      have I1:Inv (RCc P) (upd β n ⟨l,0,0⟩) (Lt (n+1)) Fb ((n,.loop n e (ps.toList.map po) (cCode P m assign) (cCode P m body) .none)::h) w1:=by
        refine S.inv.step (RCc P) A1 (fun q hq=>?_) (fun q q' hq hq' e1=>?_) (fun b hb ht=>?_)
        · by_cases e2:q=n
          · subst e2
            refine .inr ⟨Nat.lt_succ_self _,by rw [upd_same,r6]; exact Nat.lt_succ_self _,?_⟩
            rw [upd_same,getO_cons,if_pos rfl]
            exact ⟨_,r7,rfl,rfl,⟨S.env.1,fun t ht => (S.env.2 t ht).adv A1 (Sub.refl _) _ (fun r hr=>⟨Nat.lt_succ_of_lt hr,hr⟩)⟩,rfl,fun p hp=>Nat.lt_of_lt_of_le (hps p hp) S.sz,m,S.sz,rfl,rfl⟩
          · have:=hnew q hq e2
            exact .inl ⟨by rw [getO_cons,if_neg (hsym q e2)],r8 _ (S.inv.lt q this.1)⟩
        · by_cases e2:q=n
          · by_cases e3:q'=n
            · rw [e2,e3]
            · have:=hnew q' hq' e3
              rw [e2,upd_same,this.2] at e1
              have h2:=S.inv.lt q' this.1
              simp only at e1
              omega
          · have h3:=hnew q hq e2
            have h4:=S.inv.lt q h3.1
            by_cases e3:q'=n
            · rw [e3,upd_same,h3.2] at e1
              simp only at e1
              omega
            · have h5:=hnew q' hq' e3
              rw [h3.2,h5.2] at e1
              exact S.inv.inj q q' h3.1 h5.1 e1
        · obtain ⟨q,hq,e1⟩:=ht
          have hlt := (S.inv.frm b hb).1
          by_cases e2:q=n
          · subst e2; rw [upd_same] at e1; simp at e1; omega
          · obtain ⟨h1,h2⟩:=hnew q hq e2
            rw [h2] at e1
            exact (S.inv.frm b hb).2 ⟨q,h1,e1⟩
      have hy:Rep w1 (Mk (upd β n ⟨l,0,0⟩) Fb ((n,.loop n e (ps.toList.map po) (cCode P m assign) (cCode P m body) .none)::h)) (upd β n ⟨l,0,0⟩) (Lt (n+1)) (.func (.yield l) #[] #[]) (.yld n):=by
        have:=Rep.yld (w:=w1) (M:=Mk (upd β n ⟨l,0,0⟩) Fb ((n,.loop n e (ps.toList.map po) (cCode P m assign) (cCode P m body) .none)::h)) (β:=upd β n ⟨l,0,0⟩) (N:=Lt (n+1)) (r:=n) (Nat.lt_succ_self n)
        rw [upd_same] at this
        exact this
      have hargs:RepL w1 (Mk (upd β n ⟨l,0,0⟩) Fb ((n,.loop n e (ps.toList.map po) (cCode P m assign) (cCode P m body) .none)::h)) (upd β n ⟨l,0,0⟩) (Lt (n+1)) (A ++ #[.func (.yield l) #[] #[]]++C) (appL fa (.yld n::fc)):=by
        rw [appL_eq,show fa ++ (.yld n::fc)=fa++[.yld n]++fc by simp]
        exact ((hA.adv A1).app (RepL.one hy)).app (hC.adv A1)
      obtain ⟨fn',c,f1,f2,f3,f4⟩:=callFn_ok hX hXb I1 hargs.1 hargs.2 hcall
      refine ⟨l,mk,w1,{ target := .fn (.func gf) C,args:=A ++ #[.func (.yield l) #[] #[]] },w1,gf,A ++ #[.func (.yield l) #[] #[]]++C,w1,r1,?_,fun _ _=>trivial,?_,FR_depth ro,?_⟩
      · show (Deferred.ofValue (a.eval g) _).run P w1=_
        rw [hg,show (rangeCall g l).args.map a.eval = #[.func (.yield l) #[] #[]] by simp [rangeCall,Act.eval]]
        rfl
      · exact run_callFunc f1 f2 f3
      · refine CallsIn.mono (f4 ro) (fun en w3 hpost=>?_)
        obtain ⟨v,β3,rfl,_,I3,A3⟩:=hpost
        have hβ3 : (β3 n).b=l:=by rw [A3.same n (Nat.lt_succ_self n),upd_same]
        cases hgo:getO h1 n with
        | loop kk env qs ca cb j =>
          rw [hgo] at hd
          have ho:=I3.obj n
          rw [hgo] at ho
          obtain ⟨L,k1,k2,k3,_⟩:=ho
          rw [hβ3] at k1
          have hnb:L.state ≠ .busy:=by rw [k2]; cases isSkip j <;> simp
          have hp3:getO h1 n ≠ .none:=by rw [hgo]; exact fun h=>by cases h
          have I4:Inv (RCc P) β3 (Lt n1) Fb (delO h1 n) { w3 with heap:=w3.heap.setIfInBounds l (.loop { L with state := .exhausted }) }:=by
            refine (I3.del n).gen (by simp) (fun b c T fr hb _=>set_ne (fun e=>by rw [e,k1] at hb; cases hb)) (fun q hq=>set_ne (fun e1=>?_))
            obtain ⟨g1,g2⟩:=getO_del_none hq
            exact g1 (I3.inj q n (g2 ▸ hq) hp3 (e1.trans hβ3.symm))
          have A4:Adv β (Lt n) h w β3 (Lt n1) (delO h1 n) { w3 with heap:=w3.heap.setIfInBounds l (.loop { L with state := .exhausted }) }:=by
            have A13:=A1.trans A3
            refine ⟨A13.os,A13.tape,A13.output,by simpa using A13.size,A13.num,A13.same,fun b hb hnt=>?_,fun b hb ht=>A13.shr b hb (Tk_del ht)⟩
            show (w3.heap.setIfInBounds _ _)[b]? = _
            rw [set_ne (by omega)]
            exact A13.keep b hb hnt
          have hdef:DefOk s0 { w3 with heap:=w3.heap.setIfInBounds l (.loop { L with state := .exhausted }) } β3 (delO h1 n) (mk++a.defers):=by
            obtain ⟨rs,d1,d2,d3⟩:=S.dfr.adv A4
            rcases r9 with rfl | ⟨r0,rfl,q1,q2,q3⟩
            · exact ⟨rs,d1,d2,d3⟩
            · have hnt1:¬ Tk (upd β n ⟨l,0,0⟩) ((n,.loop n e (ps.toList.map po) (cCode P m assign) (cCode P m body) .none)::h) r0:=by
                rintro ⟨q,hq,e1⟩
                by_cases e2:q=n
                · subst e2; rw [upd_same] at e1; simp at e1; omega
                · obtain ⟨h1,h2⟩:=hnew q hq e2
                  rw [h2] at e1
                  have:=S.inv.lt q h1
                  omega
              have hlt1:=lt_of_some q3
              obtain ⟨rs0,d4,d5,d6⟩:=S.dfr
              refine ⟨r0::rs0,by rw [d4]; rfl,List.nodup_cons.2 ⟨fun hin=>?_,d5⟩,fun q hq=>?_⟩
              · have:=lt_of_some (d6 r0 hin).2.1
                omega
              · rcases List.mem_cons.1 hq with rfl | hq
                · refine ⟨Nat.le_trans S.s0 q1,?_,fun ht=>hnt1 (A3.shr q hlt1 (Tk_del ht))⟩
                  show (w3.heap.setIfInBounds _ _)[q]? = _
                  rw [set_ne (by omega)]
                  exact (A3.keep q hlt1 hnt1).trans q3
                · have hrs:rs=rs0:=by
                    rw [d4] at d1
                    have:=congrArg (List.map fun d:Deferred=>match d.target with | .collected r=>r | _=>0) d1
                    simpa [mark1,Function.comp_def] using this.symm
                  exact d3 q (hrs ▸ hq)
          have S4:St P s0 ro m Fb β3 n1 (delO h1 n) e { a with defers:=mk++a.defers } { w3 with heap:=w3.heap.setIfInBounds l (.loop { L with state := .exhausted }) } :=
            ⟨I4,S.env.adv A4,S.sz,hdef,S.rnd.adv A4,Nat.le_trans S.s0 A4.size⟩
          refine ⟨_,_,run_endLoop k1 hnb,?_⟩
          clear hdef I4
          revert S4 A4
          generalize ({ w3 with heap:=w3.heap.setIfInBounds l (.loop { L with state := .exhausted }) }:World)=w4
          intro A4 S4
          rw [k3]
          replace hd:afterJp e n1 (delO h1 n) j = .ok x e' n' h':=hd
          cases j with
          | none=>cases hd; exact hQ _ _ _ S4 A4
          | exit i=>cases hd; exact wpIn_exit (hQ _ _ _ S4 A4)
          | ret=>cases hd; exact wpIn_ret (hQ _ _ _ S4 A4)
        | _=>rw [hgo] at hd; cases hd
  | _=>cases hd
end
end Go.Proofs.Ytpbpmpabndgeeaa
