/- A region that leaves its order open: whatever order the machine takes, it comes to what the text's order comes to. No condition but that the program's orders are mixed. -/
import Derived.Test.YtpbpmpabndgeeaaA26
set_option linter.unusedSimpArgs false
set_option linter.unusedVariables false
namespace Go.Proofs.Ytpbpmpabndgeeaa
open Go

def cnt:List Bool→Nat
  | []=>0
  | true::t=>cnt t
  | false::t=>cnt t+1
theorem cnt_set:∀ {l:List Bool} {i:Nat},l[i]? = some false→cnt (l.set i true)+1=cnt l
  | [],_,h=>by simp at h
  | b::t,0,h=>by
    have:b=false:=by simpa using h
    subst this
    rfl
  | b::t,i+1,h=>by
    have h2:t[i]? = some false:=by simpa using h
    have:=cnt_set h2
    cases b with
    | true=>exact this
    | false=>show cnt (t.set i true)+1+1=cnt t+1; omega
theorem cnt_zero:∀ {l:List Bool},cnt l=0→∀ i,i < l.length→l[i]? = some true
  | [],_,i,hi=>by simp at hi
  | true::t,h,i,hi=>by
    cases i with
    | zero=>rfl
    | succ i=>simpa using cnt_zero (l:=t) h i (by simpa using hi)
  | false::t,h,i,hi=>by cases h

section
variable {P:Program} {K:Nat→Bool} {s0:Nat} {ro:Option Nat} {m:Nat} {Fb:Nat→Prop} {ops:Array Oper} {n0:Nat} {h0:Hps} {e0:Tr} {w0:World} {β0:Nat→Bk} {X:RunF}

variable {S:Nat→Prop} {β:Nat→Bk} {E:Tr} {H:Hps} {a:Act} {w:World}

theorem allL_clo {f:Nat} {l:List D} (h:allL (clo f) l=true) {M:Nat→Prop} {U:Us} {vs:Array Value} (H:RepL w M β U vs l):RepL w M β No vs l:=by
  rw [allL_eq,List.all_eq_true] at h
  refine ⟨H.1,fun i hi=>Rep.clo f (H.2 i hi) (h _ ?_)⟩
  rw [List.getD_eq_getElem?_getD,List.getElem?_eq_getElem hi]
  exact List.getElem_mem _

def Up (U:Us) (p:Nat→Bool):Us:=fun r=>U r∧p r=true
theorem Rep.inD {M:Nat→Prop} {U:Us} (s:Nat→Bool):∀ (f:Nat) {v:Value} {d:D},Rep w M β U v d→Ytpbpmpabndgeeaa.inD s f d=true→Rep w M β (Up U s) v d:=by
  intro f
  induction f with
  | zero=>intro v d _ h; cases h
  | succ f ih =>
    intro v d hr hc
    have hc':inD0 s (Ytpbpmpabndgeeaa.inD s f) d=true:=hc
    have hl:∀ {l:List D},allL (Ytpbpmpabndgeeaa.inD s f) l=true→∀ i,i < l.length→Ytpbpmpabndgeeaa.inD s f (l.getD i .junk)=true:=by
      intro l hl i hi
      rw [allL_eq,List.all_eq_true] at hl
      rw [List.getD_eq_getElem?_getD,List.getElem?_eq_getElem hi]
      exact hl _ (List.getElem_mem hi)
    cases hr with
    | junk=>exact .junk
    | int=>exact .int
    | bool=>exact .bool
    | str s=>exact .str s
    | nilp=>exact .nilp
    | nilf=>exact .nilf
    | nili=>exact .nili
    | nilm=>exact .nilm
    | nils=>exact .nils
    | ptr i j hr=>exact .ptr i j ⟨hr,hc'⟩
    | ip b o e j vs hM hcl ho hr=>exact .ip b o e j vs hM hcl ho hr
    | sl a b o c k es sp full vs ha hM hk hcap hf hcl ho hr=>exact .sl a b o c k es sp full vs ha hM hk hcap hf hcl ho hr
    | ms a off len c full hr ha hl hf hg hC hx=>exact .ms a off len c full ⟨hr,hc'⟩ ha hl hf hg hC hx
    | mp hr=>exact .mp ⟨hr,hc'⟩
    | yld hr=>exact .yld ⟨hr,hc'⟩
    | fn g a c first capt ha hcc hra hrc =>
      obtain ⟨h1,h2⟩:=and2 (show Bool.and (allL (Ytpbpmpabndgeeaa.inD s f) first) (allL (Ytpbpmpabndgeeaa.inD s f) capt)=true from hc')
      exact .fn g a c first capt ha hcc (fun i hi=>ih (hra i hi) (hl h1 i hi)) (fun i hi=>ih (hrc i hi) (hl h2 i hi))
    | iface h=>exact .iface (ih h hc')
    | agg vs cs hle ho hr=>exact .agg vs cs hle ho (fun i hi=>ih (hr i hi) (hl (show allL (Ytpbpmpabndgeeaa.inD s f) cs=true from hc') i hi))
    | tup vs cs hle hr=>exact .tup vs cs hle (fun i hi=>ih (hr i hi) (hl (show allL (Ytpbpmpabndgeeaa.inD s f) cs=true from hc') i hi))
theorem inM_get {s:Nat→Bool}:∀ {es:List (D×D)},inM s es=true→∀ i,i < es.length→Ytpbpmpabndgeeaa.inD s 20 (es.getD i (.junk,.junk)).1=true∧Ytpbpmpabndgeeaa.inD s 20 (es.getD i (.junk,.junk)).2=true
  | [],_,i,hi=>absurd hi (Nat.not_lt_zero _)
  | p::t,h,i,hi=>by
    obtain ⟨h1,h2⟩:=and2 (show Bool.and (Ytpbpmpabndgeeaa.inD s 20 p.1) (Bool.and (Ytpbpmpabndgeeaa.inD s 20 p.2) (inM s t))=true from h)
    obtain ⟨h2,h3⟩:=and2 h2
    cases i with
    | zero=>exact ⟨h1,h2⟩
    | succ i=>simpa using inM_get h3 i (by simpa using hi)

theorem top_cell {s:Nat→Bool} {f:Nat} {e:D} (h:Ytpbpmpabndgeeaa.inD s (f+1) e=true) (j:Nat):∃ f',Ytpbpmpabndgeeaa.inD s f' ((cells e).getD j .junk)=true:=by
  have hj1:Ytpbpmpabndgeeaa.inD s 1 .junk=true:=rfl
  cases e with
  | agg cs =>
    show ∃ f',Ytpbpmpabndgeeaa.inD s f' (cs.getD j .junk)=true
    by_cases hj:j < cs.length
    · refine ⟨f,?_⟩
      have hall:=List.all_eq_true.1 (show cs.all (Ytpbpmpabndgeeaa.inD s f)=true from (allL_eq _ _).symm.trans h)
      refine hall _ ?_
      rw [List.getD_eq_getElem?_getD,List.getElem?_eq_getElem hj]
      exact List.getElem_mem _
    · rw [List.getD_eq_getElem?_getD,List.getElem?_eq_none (by omega)]
      exact ⟨1,hj1⟩
  | _ =>
    cases j with
    | zero=>exact ⟨f+1,h⟩
    | succ j=>exact ⟨1,hj1⟩

def Ran (U:Us) (sd n:Nat):Us:=fun r=>U r ∨ (n≤r∧r < n+sd)
theorem Inv.wide {RC:Nat→Code→DCode→Prop} {U V:Us} (hs:Sub U V) (I:Inv RC β U Fb H w):Inv RC β V Fb H w :=
  I.step RC ⟨rfl,rfl,rfl,Nat.le_refl _,hs,fun _ _=>rfl,fun _ _ _=>rfl,fun _ _ h=>h⟩ (fun r _ => .inl ⟨rfl,rfl⟩) I.inj (fun b hb => (I.frm b hb).2)

def Bes (R:List Nat) (β:Nat→Bk) (Fb:Nat→Prop) (H:Hps) (b:Nat):Prop:=Mk β Fb H b∧¬ Tk β (subH R H) b
theorem tk_sub {R:List Nat} {β:Nat→Bk} {H:Hps} {b:Nat} (h:Tk β (subH R H) b):∃ r,r∈R∧getO H r ≠ .none ∧ (β r).b=b:=by
  obtain ⟨r,h1,h2⟩:=h
  by_cases hr:r∈R
  · rw [getO_subH.1 hr] at h1; exact ⟨r,hr,h1,h2⟩
  · exact absurd (getO_subH.2 hr) h1
theorem Rep.mp_inv {M:Nat→Prop} {U:Us} {v:Value} {r:Nat} (hv:Rep w M β U v (.mp r)):v = .map (some (β r).b)∧U r:=by cases hv with | mp hr=>exact ⟨rfl,hr⟩
theorem lay_ok {U:Us} {sd n n1:Nat} {R:List Nat} {g:Hps} {w':World} {β1:Nat→Bk} (I:Inv (RCc P) β U Fb H w) (hfr:∀ r,n≤r→r < n+sd→¬ U r) (hlt:n1 < n+sd) (hRn:∀ r,r∈R→r≤n) (hRH:∀ r,r∈R→getO H r ≠ .none) (ht:inH (ofR R (n+1)) g=true)
    (I1:Inv (RCc P) β1 (Lt n1) (Bes R β Fb H) g w') (A1:Adv β (Lt (n+1)) (subH R H) w β1 (Lt n1) g w'):∃ β',Inv (RCc P) β' (Ran U sd n) Fb (appH g (remH R H)) w'∧Adv β U H w β' (Ran U sd n) (appH g (remH R H)) w' ∧
      ∀ f v d,Rep w' (Mk β1 (Bes R β Fb H) g) β1 (Lt n1) v d→inD (ofR R (n+1)) f d=true→Rep w' (Mk β' Fb (appH g (remH R H))) β' (Ran U sd n) v d:=by
  have hU:∀ r,U r→¬ (n≤r∧r < n+sd):=fun r hr h=>hfr r h.1 h.2 hr
  let β':Nat→Bk:=fun r=>if n≤r∧r < n+sd then β1 r else β r
  have hb1:∀ r,n≤r→r < n+sd→β' r=β1 r:=fun r h1 h2=>if_pos ⟨h1,h2⟩
  have hb0:∀ r,U r→β' r=β r:=fun r hr=>if_neg (hU r hr)
  have hRU:∀ r,r∈R→U r:=fun r hr=>I.key r (hRH r hr)
  have hbR:∀ r,r∈R→β' r=β1 r:=fun r hr=>by
    rw [hb0 r (hRU r hr)]
    exact (A1.same r (Nat.lt_succ_of_le (hRn r hr))).symm
  have hkey:∀ r,r∈g.map (·.1) → (r∈R ∨ (n+1≤r∧r < n1))∧getO g r ≠ .none:=by
    intro r hr
    have h1:=inH_obj ht hr
    have h2:getO g r ≠ .none:=fun e=>by rw [e] at h1; cases h1
    refine ⟨?_,h2⟩
    rcases ofR_iff.1 (inH_keys ht hr) with h3 | h3
    · exact .inr ⟨h3,I1.key r h2⟩
    · exact .inl h3
  have hkb:∀ r,r∈g.map (·.1)→β' r=β1 r∧Ran U sd n r:=by
    intro r hr
    rcases (hkey r hr).1 with h | ⟨h1,h2⟩
    · exact ⟨hbR r h,.inl (hRU r h)⟩
    · exact ⟨hb1 r (by omega) (by omega),.inr ⟨by omega,by omega⟩⟩
  have hsplit:∀ r,getO (appH g (remH R H)) r ≠ .none → (r∈g.map (·.1)∧getO (appH g (remH R H)) r=getO g r∧β' r=β1 r) ∨ (r ∉ g.map (·.1)∧r ∉ R∧getO (appH g (remH R H)) r=getO H r∧U r∧β' r=β r):=by
    intro r hr
    by_cases hm:r∈g.map (·.1)
    · exact .inl ⟨hm,(getO_app g _ r).1 hm,(hkb r hm).1⟩
    · have h1 := ((getO_app g (remH R H) r).2 hm).1
      by_cases hR:r∈R
      · rw [h1,getO_remH.1 hR] at hr; exact absurd rfl hr
      · rw [getO_remH.2 hR] at h1
        have h2:=I.key r (h1 ▸ hr)
        exact .inr ⟨hm,hR,h1,h2,hb0 r h2⟩
  have hTk:∀ b,Tk β' (appH g (remH R H)) b→Tk β1 g b∨∃ r,r ∉ R∧getO H r ≠ .none ∧ (β r).b=b:=by
    rintro b ⟨r,h1,h2⟩
    rcases hsplit r h1 with ⟨_,h3,h4⟩ | ⟨_,h5,h3,_,h4⟩
    · exact .inl ⟨r,h3 ▸ h1,h4 ▸ h2⟩
    · exact .inr ⟨r,h5,h3 ▸ h1,h4 ▸ h2⟩
  have hbes:∀ r,r ∉ R→getO H r ≠ .none→Bes R β Fb H (β r).b:=by
    intro r hr hn
    refine ⟨.inr ⟨r,hn,rfl⟩,fun ht=>?_⟩
    obtain ⟨q,h1,h2,h3⟩:=tk_sub ht
    have:=I.inj q r h2 hn h3
    subst this
    exact hr h1
  have hbesF:∀ b,Fb b→Bes R β Fb H b:=fun b hb=>⟨.inl hb,fun ht=>by
    obtain ⟨q,h1,h2,h3⟩:=tk_sub ht
    exact (I.frm b hb).2 ⟨q,h2,h3⟩⟩
  have hMk:∀ b,Mk β' Fb (appH g (remH R H)) b→Mk β1 (Bes R β Fb H) g b:=by
    rintro b (h | h)
    · exact .inl (hbesF b h)
    · rcases hTk b h with h | ⟨r,h1,h2,rfl⟩
      · exact .inr h
      · exact .inl (hbes r h1 h2)
  have hkeep:∀ b,b < w.heap.size→¬ Tk β (subH R H) b→w'.heap[b]? = w.heap[b]? := fun b hb hn=>A1.keep b hb hn
  have hrep:∀ f v d,Rep w' (Mk β1 (Bes R β Fb H) g) β1 (Lt n1) v d→inD (ofR R (n+1)) f d=true→Rep w' (Mk β' Fb (appH g (remH R H))) β' (Ran U sd n) v d:=by
    intro f v d hr hd
    refine (Rep.inD (ofR R (n+1)) f hr hd).mono (Nat.le_refl _) (fun _ _ _=>rfl) (fun b _ hb=>hMk b hb) _ (fun r hr=>?_) (fun r hr=>?_)
    · have h1:r < n1:=hr.1
      rcases ofR_iff.1 hr.2 with h2 | h2
      · exact .inr ⟨by omega,by omega⟩
      · exact .inl (hRU r h2)
    · have h1:r < n1:=hr.1
      rcases ofR_iff.1 hr.2 with h2 | h2
      · exact hb1 r (by omega) (by omega)
      · exact hbR r h2
  have hA:Adv β U H w β' (Ran U sd n) (appH g (remH R H)) w':=by
    refine ⟨A1.os,A1.tape,A1.output,A1.size,fun r hr => .inl hr,hb0,fun b hb hn=>hkeep b hb (fun ht=>?_),fun b hb ht=>?_⟩
    · obtain ⟨q,_,h2,h3⟩:=tk_sub ht
      exact hn ⟨q,h2,h3⟩
    · rcases hTk b ht with h | ⟨r,_,h2,h3⟩
      · obtain ⟨q,_,h2,h3⟩:=tk_sub (A1.shr b hb h)
        exact ⟨q,h2,h3⟩
      · exact ⟨r,h2,h3⟩
  refine ⟨β',I.step _ hA (fun r hr=>?_) (fun r q hr hq e=>?_) (fun b hb ht=>?_),hA,hrep⟩
  · rcases hsplit r hr with ⟨hm,h3,h4⟩ | ⟨_,h5,h3,_,h4⟩
    · obtain ⟨_,h8⟩:=hkey r hm
      refine .inr ⟨(hkb r hm).2,by rw [h4]; exact I1.lt r h8,?_⟩
      rw [h3,h4]
      have ho:=I1.obj r
      have ht':=inH_obj ht hm
      revert ho ht'
      cases getO g r with
      | none=>intro _ _; trivial
      | row k es =>
        rintro ⟨o1,o2,o3,c,T,o4,o5,o6⟩ ht'
        refine ⟨o1,o2,o3,c,T,o4,o5,fun i hi j hj=>?_⟩
        have h9:inD (ofR R (n+1)) 20 (es.getD i .junk)=true:=by
          have hall:=List.all_eq_true.1 (show es.all (inD (ofR R (n+1)) 20)=true from (allL_eq _ _).symm.trans ht')
          refine hall _ ?_
          rw [List.getD_eq_getElem?_getD,List.getElem?_eq_getElem hi]
          exact List.getElem_mem _
        obtain ⟨f,hf⟩:=top_cell h9 j
        exact ⟨(o6 i hi j hj).1,hrep f _ _ (o6 i hi j hj).2 hf⟩
      | map es =>
        rintro ⟨ents,clock,o1,hst,o2,o3⟩ ht'
        exact ⟨ents,clock,o1,hst,o2,fun i hi=>⟨hrep 20 _ _ (o3 i hi).1 (inM_get ht' i hi).1,hrep 20 _ _ (o3 i hi).2 (inM_get ht' i hi).2⟩⟩
      | mit q =>
        rintro ⟨hq,since,o1⟩ ht'
        have hmp:=hrep 20 _ _ (Rep.mp hq) (show inD (ofR R (n+1)) 20 (.mp q)=true from ht')
        obtain ⟨hv,hr⟩:=Rep.mp_inv hmp
        have hb:=Option.some.inj (Value.map.inj hv)
        exact ⟨hr,since,by rw [← hb]; exact o1⟩
      | loop=>intro _ ht'; cases ht'
    · refine .inl ⟨h3,hkeep _ (I.lt r (h3 ▸ hr)) (fun ht=>?_)⟩
      obtain ⟨q,e1,e2,e3⟩:=tk_sub ht
      have:=I.inj q r e2 (h3 ▸ hr) e3
      subst this
      exact h5 e1
  · rcases hsplit r hr with ⟨hm,h3,h4⟩ | ⟨_,hr5,h3,_,h4⟩
    · rcases hsplit q hq with ⟨hm2,h5,h6⟩ | ⟨_,hq5,h5,_,h6⟩
      · exact I1.inj r q (hkey r hm).2 (hkey q hm2).2 (by rw [← h4,← h6]; exact e)
      · exact absurd ⟨r,(hkey r hm).2,by rw [← h4,e,h6]⟩ (I1.frm (β q).b (hbes q hq5 (h5 ▸ hq))).2
    · rcases hsplit q hq with ⟨hm2,h5,h6⟩ | ⟨_,hq5,h5,_,h6⟩
      · exact absurd ⟨q,(hkey q hm2).2,by rw [← h6,← e,h4]⟩ (I1.frm (β r).b (hbes r hr5 (h3 ▸ hr))).2
      · exact I.inj r q (h3 ▸ hr) (h5 ▸ hq) (by rw [← h4,← h6]; exact e)
  · rcases hTk b ht with h | ⟨r,_,h2,h3⟩
    · exact (I1.frm b (hbesF b hb)).2 h
    · exact (I.frm b hb).2 ⟨r,h2,h3⟩

theorem pure_ok (hX:CodeOk P X) (hXb:∀ e n h,X .bad e n h = .bad) {U:Us} (I:Inv (RCc P) β U Fb H w) (E1:EnvOk w (Mk β Fb H) β U a.tmps E) (hm:m≤a.tmps.size) {o:Oper} {c:Call} {f:Operand} (ho:o.op = .call c) (hc:c.callee = .value f) {sd n n1:Nat} {R:List Nat} {d:D} {H':Hps}
    (hfr:∀ r,n≤r→r < n+sd→¬ U r) (hlt:n1 < n+sd)
    (hd:subC (callX (cFk K P) X) R n H (ev E (cO m f)) (evs E (cOs m c.args)) = .ok d n1 H') {next:Act→World→Prop} {Q:Exit→Act→World→Prop}
    (hnext:∀ v β' w',n < n1→Rep w' (Mk β' Fb H') β' (Ran U sd n) v d→Inv (RCc P) β' (Ran U sd n) Fb H' w'→Adv β U H w β' (Ran U sd n) H' w'→next (a.put o.dst v) w'):o.wpIn (FR ro) 0 P a w next Q:=by
  obtain ⟨g,hcl,rfl,c1,c2,c3,c4,c5,c6⟩:=pureC_inv hd
  refine ⟨fun _ _=>trivial,?_⟩
  rw [Oper.semAt_eq _ _ _ (fun c h=>by rw [ho] at h; cases h)]
  have hex:execOp a.eval o = (do let d ← resolve a.eval c o.type; invoke d.target d.args:Sem Next):=by unfold execOp; rw [ho]
  rw [hex]
  have hRn:∀ r,r∈R→r≤n:=fun r hr=>ble_le (allN_mem c1 hr)
  have hRO:∀ r,r∈R→inO (fun r=>memN r R) (getO H r)=true:=fun r hr=>by
    have:=inH_obj c4 (show r ∈ (subH R H).map (·.1) by rw [subH_keys]; exact hr)
    rw [getO_subH.1 hr] at this; exact this
  have hRH:∀ r,r∈R→getO H r ≠ .none:=fun r hr e=>by have:=hRO r hr; rw [e] at this; cases this
  have hMs:∀ b,b < w.heap.size→Mk β (Bes R β Fb H) (subH R H) b→Mk β Fb H b:=by
    rintro b _ (hb | hb)
    · exact hb.1
    · obtain ⟨q,_,h2,h3⟩:=tk_sub hb
      exact .inr ⟨q,h2,h3⟩
  have hrep:∀ f v d,Rep w (Mk β Fb H) β U v d→inD (fun r=>memN r R) f d=true→Rep w (Mk β (Bes R β Fb H) (subH R H)) β (Lt (n+1)) v d:=fun f v d hr hd =>
    (Rep.inD _ f hr hd).mono (Nat.le_refl _) (fun _ _ _=>rfl) hMs _ (fun r hr=>Nat.lt_succ_of_le (hRn r (memN_iff.1 hr.2))) (fun _ _=>rfl)
  have hev:=hrep 20 _ _ (ev_ok E1 hm f) c2
  have hvs0:RepL w (Mk β Fb H) β U (c.args.map a.eval) (evs E (cOs m c.args)):=evs_ok E1 hm c.args
  have hvs:RepL w (Mk β (Bes R β Fb H) (subH R H)) β (Lt (n+1)) (c.args.map a.eval) (evs E (cOs m c.args)):=by
    refine ⟨hvs0.1,fun i hi=>hrep 20 _ _ (hvs0.2 i hi) ?_⟩
    rw [allL_eq,List.all_eq_true] at c3
    refine c3 _ ?_
    rw [List.getD_eq_getElem?_getD,List.getElem?_eq_getElem hi]
    exact List.getElem_mem _
  have I0:Inv (RCc P) β (Lt (n+1)) (Bes R β Fb H) (subH R H) w:=by
    have hin:∀ r,getO (subH R H) r ≠ .none→r∈R∧getO H r ≠ .none:=fun r hr=>by
      by_cases h:r∈R
      · exact ⟨h,hRH r h⟩
      · exact absurd (getO_subH.2 h) hr
    refine ⟨fun r hr=>Nat.lt_succ_of_le (hRn r (hin r hr).1),fun r hr=>I.lt r (hin r hr).2,fun r=>?_,fun r q hr hq e=>I.inj r q (hin r hr).2 (hin q hq).2 e,fun b hb=>⟨?_,hb.2⟩⟩
    · by_cases hr:r∈R
      · rw [getO_subH.1 hr]
        have ho:=I.obj r
        have hi:=hRO r hr
        revert ho hi
        cases getO H r with
        | none=>intro _ _; trivial
        | row k es =>
          rintro ⟨o1,o2,o3,c,T,o4,o5,o6⟩ hi
          refine ⟨o1,o2,o3,c,T,o4,o5,fun i hil j hj=>?_⟩
          have h9:inD (fun r=>memN r R) 20 (es.getD i .junk)=true:=by
            have hall:=List.all_eq_true.1 (show es.all (inD (fun r=>memN r R) 20)=true from (allL_eq _ _).symm.trans hi)
            refine hall _ ?_
            rw [List.getD_eq_getElem?_getD,List.getElem?_eq_getElem hil]
            exact List.getElem_mem _
          obtain ⟨f,hf⟩:=top_cell h9 j
          exact ⟨(o6 i hil j hj).1,hrep f _ _ (o6 i hil j hj).2 hf⟩
        | map es =>
          rintro ⟨ents,clock,o1,hst,o2,o3⟩ hi
          exact ⟨ents,clock,o1,hst,o2,fun i hil=>⟨hrep 20 _ _ (o3 i hil).1 (inM_get hi i hil).1,hrep 20 _ _ (o3 i hil).2 (inM_get hi i hil).2⟩⟩
        | mit q =>
          rintro ⟨hq,since,o1⟩ hi
          have hmp:=hrep 20 _ _ (Rep.mp hq) (show inD (fun r=>memN r R) 20 (.mp q)=true from hi)
          obtain ⟨_,hr⟩:=Rep.mp_inv hmp
          exact ⟨hr,since,o1⟩
        | loop=>intro _ hi; cases hi
      · rw [getO_subH.2 hr]; trivial
    · rcases hb.1 with hb | ⟨q,hq,rfl⟩
      · exact (I.frm b hb).1
      · exact I.lt q hq
  revert hcl hev c2
  generalize ev E (cO m f)=G
  intro hcl c2 hev
  cases G with
  | fn g2 x y =>
    obtain ⟨A,C,hg,hA,hC⟩:=fn_inv hev
    rw [resolve_val hc hg]
    have hargs:RepL w (Mk β (Bes R β Fb H) (subH R H)) β (Lt (n+1)) (A++c.args.map a.eval++C) (appL x (appL (evs E (cOs m c.args)) y)):=by
      rw [appL_eq,appL_eq,← List.append_assoc]
      exact (hA.app hvs).app hC
    replace hcl:callFn X (n+1) (subH R H) (appL x (appL (evs E (cOs m c.args)) y)) (cFk K P g2) = .ok d n1 g:=hcl
    obtain ⟨fn',cc,f1,f2,f3,f4⟩:=callFn_ok hX hXb I0 hargs.1 hargs.2 hcl
    rw [show (invoke (.fn (.func g2) C) (A++c.args.map a.eval)).run P w=_ from run_callFunc f1 f2 f3]
    refine ⟨FR_depth ro,CallsIn.mono (f4 ro) (fun en w' hp=>?_)⟩
    obtain ⟨v,β1,rfl,p1,p2,p3⟩:=hp
    obtain ⟨β',q1,q2,q3⟩:=lay_ok I hfr hlt hRn hRH c6 p2 p3
    exact hnext v β' w' (p3.num n (Nat.lt_succ_self n)) (q3 20 v d p1 c5) q1 q2
  | yld r =>
    have hr:r∈R:=memN_iff.1 (show memN r R=true from c2)
    replace hcl:round X r (n+1) (subH R H) (evs E (cOs m c.args)) (getO (subH R H) r) = .ok d n1 g:=hcl
    rw [getO_subH.1 hr] at hcl
    have hi:=hRO r hr
    cases ho:getO H r with
    | loop=>rw [ho] at hi; cases hi
    | _=>rw [ho] at hcl; cases hcl
  | _=>cases hcl

theorem drop_zero (h:Hps):dropFrom 0 h=[]:=by
  induction h with
  | nil=>rfl
  | cons p t ih =>
    show Bool.rec (motive:=fun _=>Hps) (dropFrom 0 t) (p::dropFrom 0 t) (Nat.blt p.1 0)=[]
    rw [blt_iff,decide_eq_false (Nat.not_lt_zero _)]
    exact ih
theorem Rep.bare {M:Nat→Prop} {U:Us} {w':World} {M':Nat→Prop} {β':Nat→Bk} {U':Us}:∀ (f:Nat) {v:Value} {d:D},Rep w M β U v d→Ytpbpmpabndgeeaa.bare f d=true→Rep w' M' β' U' v d:=by
  intro f
  induction f with
  | zero=>intro v d _ h; cases h
  | succ f ih =>
    intro v d hr hc
    have hc':bare0 (Ytpbpmpabndgeeaa.bare f) d=true:=hc
    have hl:∀ {l:List D},allL (Ytpbpmpabndgeeaa.bare f) l=true→∀ i,i < l.length→Ytpbpmpabndgeeaa.bare f (l.getD i .junk)=true:=by
      intro l hl i hi
      rw [allL_eq,List.all_eq_true] at hl
      refine hl _ ?_
      rw [List.getD_eq_getElem?_getD,List.getElem?_eq_getElem hi]
      exact List.getElem_mem _
    cases hr with
    | int=>exact .int
    | bool=>exact .bool
    | str s=>exact .str s
    | agg vs cs h1 ho h2=>exact .agg vs cs h1 ho (fun i hi=>ih (h2 i hi) (hl hc' i hi))
    | tup vs cs h1 h2=>exact .tup vs cs h1 (fun i hi=>ih (h2 i hi) (hl hc' i hi))
    | _=>cases hc'

theorem snap_ok (hX:CodeOk P X) (hXb:∀ e n h,X .bad e n h = .bad) {U:Us} (I:Inv (RCc P) β U Fb H w) (E1:EnvOk w (Mk β Fb H) β U a.tmps E) (hm:m≤a.tmps.size) {o:Oper} {c:Call} {f:Operand} (ho:o.op = .call c) (hc:c.callee = .value f) {sd n n1:Nat} {d:D} {H':Hps}
    (hfr:∀ r,n≤r→r < n+sd→¬ U r) (hlt:n1 < n+sd)
    (hd:snapC n H (frz H 0 20 (ev E (cO m f))) (mapL (frz H 0 20) (evs E (cOs m c.args))) (callX (cFk K P) X (n+1) [] (frz H 0 20 (ev E (cO m f))) (mapL (frz H 0 20) (evs E (cOs m c.args)))) = .ok d n1 H') {next:Act→World→Prop} {Q:Exit→Act→World→Prop}
    (hnext:∀ v β' w',Rep w' (Mk β' Fb H') β' (Ran U sd n) v d→Inv (RCc P) β' (Ran U sd n) Fb H' w'→Adv β U H w β' (Ran U sd n) H' w'→next (a.put o.dst v) w'):o.wpIn (FR ro) 0 P a w next Q:=by
  obtain ⟨hcl,rfl,c1,c2,c3⟩:=snapC_inv hd
  refine ⟨fun _ _=>trivial,?_⟩
  rw [Oper.semAt_eq _ _ _ (fun c h=>by rw [ho] at h; cases h)]
  have hex:execOp a.eval o = (do let d ← resolve a.eval c o.type; invoke d.target d.args:Sem Next):=by unfold execOp; rw [ho]
  rw [hex]
  have hev0:=frz_ok I 0 20 (Sub.refl U) (ev_ok E1 hm f)
  rw [drop_zero] at hev0
  have hev:=Rep.clo 20 hev0 c1
  have hvs0:RepL w (Mk β Fb H') β U (c.args.map a.eval) (evs E (cOs m c.args)):=evs_ok E1 hm c.args
  have hlen : (mapL (frz H' 0 20) (evs E (cOs m c.args))).length = (evs E (cOs m c.args)).length:=by rw [mapL_eq,List.length_map]
  have hvs1:RepL w (Mk β Fb []) β U (c.args.map a.eval) (mapL (frz H' 0 20) (evs E (cOs m c.args))):=by
    refine ⟨by rw [hlen]; exact hvs0.1,fun i hi=>?_⟩
    rw [mapL_getD (frz_junk H' 0 20)]
    have:=frz_ok I 0 20 (Sub.refl U) (hvs0.2 i (hlen ▸ hi))
    rw [drop_zero] at this
    exact this
  have hvs:=allL_clo c2 hvs1
  revert hcl hev c1
  generalize frz H' 0 20 (ev E (cO m f))=G
  intro hcl c1 hev
  generalize mapL (frz H' 0 20) (evs E (cOs m c.args))=A0 at hcl hvs
  cases G with
  | fn g2 x y =>
    obtain ⟨A,C,hg,hA,hC⟩:=fn_inv hev
    rw [resolve_val hc hg]
    have hargs:RepL w (Mk β Fb []) β No (A++c.args.map a.eval++C) (appL x (appL A0 y)):=by
      rw [appL_eq,appL_eq,← List.append_assoc]
      exact (hA.app hvs).app hC
    have I0:Inv (RCc P) β (Lt (n+1)) Fb [] w :=
      ⟨fun r hr=>absurd rfl hr,fun r hr=>absurd rfl hr,fun r=>trivial,fun r q hr=>absurd rfl hr,fun b hb=>⟨(I.frm b hb).1,fun ⟨q,hq,_⟩=>hq rfl⟩⟩
    have hargs0:∀ i,i < (appL x (appL A0 y)).length→Rep w (Mk β Fb []) β (Lt (n+1)) ((A++c.args.map a.eval++C).getD i undef) ((appL x (appL A0 y)).getD i .junk):=by
      intro i hi
      exact (hargs.2 i hi).mono (Nat.le_refl _) (fun _ _ _=>rfl) (fun b _ hb=>hb) _ (Sub.no _) (fun _ _=>rfl)
    replace hcl:callFn X (n+1) [] (appL x (appL A0 y)) (cFk K P g2) = .ok d n1 []:=hcl
    obtain ⟨fn',cc,f1,f2,f3,f4⟩:=callFn_ok hX hXb I0 hargs.1 hargs0 hcl
    rw [show (invoke (.fn (.func g2) C) (A++c.args.map a.eval)).run P w=_ from run_callFunc f1 f2 f3]
    refine ⟨FR_depth ro,CallsIn.mono (f4 ro) (fun en w' hp=>?_)⟩
    obtain ⟨v,β1,rfl,p1,p2,p3⟩:=hp
    have I1:Inv (RCc P) β1 (Lt n1) (Bes [] β Fb H') [] w':=by
      refine ⟨fun r hr=>absurd rfl hr,fun r hr=>absurd rfl hr,fun r=>trivial,fun r q hr=>absurd rfl hr,fun b hb=>⟨?_,fun ⟨q,hq,_⟩=>hq rfl⟩⟩
      rcases hb.1 with hb | ⟨q,hq,rfl⟩
      · exact Nat.lt_of_lt_of_le (I.frm b hb).1 p3.size
      · exact Nat.lt_of_lt_of_le (I.lt q hq) p3.size
    obtain ⟨β',q1,q2,_⟩:=lay_ok (R:=[]) (g:=[]) I hfr hlt (fun r hr=>by cases hr) (fun r hr=>by cases hr) rfl I1 p3
    exact hnext v β' w' (Rep.bare 20 p1 c3) q1 q2
  | yld r=>cases c1
  | _=>cases hcl

theorem nm_mono {sd n0 i j:Nat} (h:i≤j):nm sd n0 i≤nm sd n0 j:=Nat.add_le_add_left (Nat.mul_le_mul_right _ h) _
theorem nm_le {sd n0 j:Nat}:n0≤nm sd n0 j:=Nat.le_add_right _ _
structure UOk (P:Program) (m:Nat) (ops:Array Oper) (sd n0:Nat) (S:Nat→Prop) (U:Us):Prop where
  low:∀ r,r < n0→U r
  fresh:∀ i x,(dl P m ops)[i]? = some x→¬ S i→0 < loud (oP x)→∀ r,nm sd n0 i≤r→r < nm sd n0 (i+1)→¬ U r
  bound:∀ r,U r→r < n0∨∃ i x,(dl P m ops)[i]? = some x∧S i∧0 < loud (oP x)∧r < nm sd n0 (i+1)
theorem UOk.same {sd:Nat} {U:Us} {j:Nat} (h:UOk P m ops sd n0 S U):UOk P m ops sd n0 (Plus S j) U :=
  ⟨h.low,fun i x hx hs=>h.fresh i x hx (fun e=>hs (.inl e)),fun r hr => (h.bound r hr).imp id fun ⟨i,x,h1,h2,h3⟩=>⟨i,x,h1,.inl h2,h3⟩⟩
theorem UOk.ran {sd:Nat} {U:Us} {j:Nat} {y:DOper} (h:UOk P m ops sd n0 S U) (hy : (dl P m ops)[j]? = some y) (hl:0 < loud (oP y)) {V:Us} (hV:∀ r,V r→U r ∨ (nm sd n0 j≤r∧r < nm sd n0 (j+1))) (hUV:Sub U V):UOk P m ops sd n0 (Plus S j) V:=by
  refine ⟨fun r hr=>hUV r (h.low r hr),fun i x hx hs hi r h1 h2 hv=>?_,fun r hr=>?_⟩
  · rcases hV r hv with hu | ⟨h3,h4⟩
    · exact h.fresh i x hx (fun e=>hs (.inl e)) hi r h1 h2 hu
    · rcases Nat.lt_trichotomy i j with e | e | e
      · have:=nm_mono (sd:=sd) (n0:=n0) (show i+1≤j from e); omega
      · exact hs (.inr e)
      · have:=nm_mono (sd:=sd) (n0:=n0) (show j+1≤i from e); omega
  · rcases hV r hr with hu | ⟨_,h4⟩
    · exact (h.bound r hu).imp id fun ⟨i,x,h1,h2,h3⟩=>⟨i,x,h1,.inl h2,h3⟩
    · exact .inr ⟨j,y,hy,.inr rfl,hl,h4⟩
theorem UOk.bar {sd:Nat} {U:Us} {j n1:Nat} {y:DOper} (h:UOk P m ops sd n0 S U) (hj:¬ S j) (hy : (dl P m ops)[j]? = some y) (hl:0 < loud (oP y)) (hb:∀ i x,(dl P m ops)[i]? = some x→0 < loud (oP x)→i≠j → (S i↔i < j)) (h1:nm sd n0 j≤n1) (h2:n1 < nm sd n0 (j+1)) :
    Sub U (Lt (nm sd n0 j))∧UOk P m ops sd n0 (Plus S j) (Lt n1):=by
  refine ⟨fun r hr=>?_,fun r hr=>?_,fun i x hx hs hi r h3 h4 hv=>?_,fun r hr => .inr ⟨j,y,hy,.inr rfl,hl,Nat.lt_trans hr h2⟩⟩
  · rcases h.bound r hr with h3 | ⟨i,x,h3,h4,h5,h6⟩
    · exact Nat.lt_of_lt_of_le h3 nm_le
    · by_cases e:i=j
      · exact absurd (e ▸ h4) hj
      · have:=nm_mono (sd:=sd) (n0:=n0) (show i+1≤j from (hb i x h3 h5 e).1 h4)
        exact Nat.lt_of_lt_of_le h6 this
  · exact Nat.lt_of_lt_of_le (Nat.lt_of_lt_of_le hr nm_le) h1
  · have hv:r < n1:=hv
    have hne:i≠j:=fun e=>hs (.inr e)
    have hij:¬ i < j:=fun e=>hs (.inl ((hb i x hx hi hne).2 e))
    have:=nm_mono (sd:=sd) (n0:=n0) (show j+1≤i by omega)
    omega

structure StD (P:Program) (s0:Nat) (ro:Option Nat) (m:Nat) (ops:Array Oper) (Fb:Nat→Prop) (β0:Nat→Bk) (n0:Nat) (h0:Hps) (w0:World) (sd:Nat) (S:Nat→Prop) (U:Us) (β:Nat→Bk) (E:Tr) (H:Hps) (a:Act) (w:World):Prop where
  inv:Inv (RCc P) β U Fb H w
  env:EnvOk w (Mk β Fb H) β U a.tmps E
  sz:m≤a.tmps.size
  adv:Adv β0 (Lt n0) h0 w0 β U H w
  dfr:DefOk s0 w β H a.defers
  rnd:RoOk w β H ro
  s0:s0≤w.heap.size
  uok:UOk P m ops sd n0 S U

theorem StD.next {sd:Nat} {U V:Us} (Z:StD P s0 ro m ops Fb β0 n0 h0 w0 sd S U β E H a w) {j:Nat} {β':Nat→Bk} {H':Hps} {w':World} {v:Value} {d:D} {dst:Option Nat} {dp:Option Po} (hdp:cDst m dst=some dp)
    (hv:Rep w' (Mk β' Fb H') β' V v d) (I:Inv (RCc P) β' V Fb H' w') (A:Adv β U H w β' V H' w') (hu:UOk P m ops sd n0 (Plus S j) V) :
    StD P s0 ro m ops Fb β0 n0 h0 w0 sd (Plus S j) V β' (putE E dp d) H' (a.put dst v) w':=by
  have hm:m < 2 ^ 20:=Nat.lt_of_le_of_lt Z.sz Z.env.1
  have E1 := (Z.env.adv A).dst hm hv hdp
  refine ⟨I,E1,?_,Z.adv.trans A,?_,Z.rnd.adv A,Nat.le_trans Z.s0 A.size,hu⟩
  · cases dst with
    | none=>exact Z.sz
    | some t=>show m ≤ (a.tmps.setIfInBounds t v).size; simpa using Z.sz
  · cases dst with
    | none=>exact Z.dfr.adv A
    | some t=>exact Z.dfr.adv A

theorem opP_invoke {call:CallF} {b:Bool} {e:Tr} {n:Nat} {h:Hps} {o:Oper} {c:Call} {x:Operand} {k:String} (ho:o.op = .call c) (hc:c.callee = .invoke x k):opP call b e n h (cOp P m o) = .bad:=by
  have hco:cOp P m o=cInv x k c.args:=by unfold cOp; rw [ho]; show cCall P m c=_; unfold cCall; rw [hc]
  rw [hco]
  rfl
theorem newO_loud {o:Oper} (h:newO P o=true):cOp P m o = .bad∨loud (cOp P m o)=2:=by
  obtain ⟨dst,op,ty,pos,aft,g⟩:=o
  cases op with
  | alloc T => show cNew P T = .bad ∨ loud (cNew P T) = 2; unfold cNew; repeat' split
               all_goals first | exact .inl rfl | exact .inr rfl
  | box T x => show cBox P m T x = .bad ∨ loud (cBox P m T x) = 2; unfold cBox; repeat' split
               all_goals first | exact .inl rfl | exact .inr rfl
  | buildSlice T l ps => show cBsl P m T l ps.toList = .bad ∨ loud (cBsl P m T l ps.toList) = 2; unfold cBsl; repeat' split
                         all_goals first | exact .inl rfl | exact .inr rfl
  | store T x y =>
    show (cT P T fun ag i=>if ag=false∧i.size≠1 then .bad else .store ag i.size (cO m x) (cO m y)) = .bad∨loud (cT P T fun ag i=>if ag=false∧i.size≠1 then .bad else .store ag i.size (cO m x) (cO m y))=2
    unfold cT; repeat' split
    all_goals first | exact .inl rfl | exact .inr rfl | ((dsimp only; split) <;> first | exact .inl rfl | exact .inr rfl)
  | convert src dst' x =>
    have h : (match P.underlying src,P.underlying dst' with | some .string,some (.slice _)=>true | some (.slice _),some (.slice _)=>true | _,_=>false)=true:=h
    show cCvt P m src dst' x = .bad∨loud (cCvt P m src dst' x)=2
    unfold cCvt
    revert h
    repeat' split
    all_goals first | (intro h; exact .inl rfl) | (intro h; exact .inr rfl) | (intro h; simp_all; done)
  | makeSlice T l c => show cMksl P m T l c = .bad ∨ loud (cMksl P m T l c) = 2; unfold cMksl; repeat' split
                       all_goals first | exact .inl rfl | exact .inr rfl
  | makeMap T r=>exact .inl rfl
  | range T x => show cMrng T x = .bad ∨ loud (cMrng T x) = 2; unfold cMrng; repeat' split
                 all_goals first | exact .inl rfl | exact .inr rfl
  | mapUpdate T x i v => show cMupd T x i v = .bad ∨ loud (cMupd T x i v) = 2; unfold cMupd; repeat' split
                         all_goals first | exact .inl rfl | exact .inr rfl
  | call c =>
    have h : (match c.callee with | .builtin .append=>true | .builtin .delete=>true | _=>false)=true:=h
    show cCall P m c = .bad∨loud (cCall P m c)=2
    unfold cCall
    cases hc:c.callee with
    | value f=>rw [hc] at h; cases h
    | invoke r k=>rw [hc] at h; cases h
    | builtin b =>
      rw [hc] at h
      cases b <;> first | (cases h; done) | exact .inl rfl | ((simp only [cApp]; repeat' split) <;> first | exact .inl rfl | exact .inr rfl)
  | _=>cases h

theorem any_ok {sd:Nat} (hsd:0 < sd) (hX:CodeOk P X) (hXb:∀ e n h,X .bad e n h = .bad) (hD:drawOk (Region.before ops) ops (dl P m ops)=true)
    (hG:∀ j y,(dl P m ops)[j]? = some y→Good sd (callX (cFk K P) X) (cBar P m ops) (dl P m ops) (cUn P m ops) e0 n0 h0 j y) {Q:Exit→Act→World→Prop}
    (hQ:∀ β a w,St P s0 ro m Fb β (nm sd n0 ops.size) (trj sd (callX (cFk K P) X) (cBar P m ops) (dl P m ops) e0 n0 h0 ops.size).2 (trj sd (callX (cFk K P) X) (cBar P m ops) (dl P m ops) e0 n0 h0 ops.size).1 a w →
      Adv β0 (Lt n0) h0 w0 β (Lt (nm sd n0 ops.size)) (trj sd (callX (cFk K P) X) (cBar P m ops) (dl P m ops) e0 n0 h0 ops.size).2 w→Q .normal a w) :
    ∀ (fuel:Nat) (listed:Array Bool) (U:Us) (β:Nat→Bk) (E:Tr) (H:Hps) (a:Act) (w:World),listed.size=ops.size→cnt listed.toList≤fuel→Dn ops (fun i=>listed.getD i false=true) →
      Sim P m ops sd (callX (cFk K P) X) e0 n0 h0 (fun i=>listed.getD i false=true) E H→StD P s0 ro m ops Fb β0 n0 h0 w0 sd (fun i=>listed.getD i false=true) U β E H a w →
      wpAnyIn (FR ro) 0 P .any ops Q fuel listed a w:=by
  have static:∀ j o,ops[j]? = some o→∀ e,e∈o.after→Region.binds .any e=true→e.on < j:=by
    intro j o ho e he hb
    unfold drawOk at hD
    rw [Bool.and_eq_true] at hD
    have hmem : (o,j)∈ops.toList.zipIdx:=by
      rw [List.mem_zipIdx_iff_getElem?]
      simpa using ho
    have h1:=Array.all_eq_true_iff_forall_mem.1 (List.all_eq_true.1 hD.2 (o,j) hmem) e he
    rw [hb] at h1
    simpa using h1
  have done:∀ (listed:Array Bool) (U:Us) (β:Nat→Bk) (E:Tr) (H:Hps) (a:Act) (w:World),listed.size=ops.size → (∀ i,i < ops.size→listed.getD i false=true) →
      Sim P m ops sd (callX (cFk K P) X) e0 n0 h0 (fun i=>listed.getD i false=true) E H→StD P s0 ro m ops Fb β0 n0 h0 w0 sd (fun i=>listed.getD i false=true) U β E H a w→Q .normal a w:=by
    intro listed U β E H a w hsz hall M D
    have hU:Sub U (Lt (nm sd n0 ops.size)):=by
      intro r hr
      rcases D.uok.bound r hr with h | ⟨i,x,h1,_,_,h4⟩
      · exact Nat.lt_of_lt_of_le h nm_le
      · obtain ⟨_,_,_,hil⟩:=dl_get h1
        exact Nat.lt_of_lt_of_le h4 (nm_mono hil)
    have hagree:∀ i x,(dl P m ops)[i]? = some x → (listed.getD i false=true↔i < ops.size):=by
      intro i x hx
      obtain ⟨_,_,_,hil⟩:=dl_get hx
      exact ⟨fun _=>hil,fun _=>hall i hil⟩
    have hh:∀ q,getO H q=getO (trj sd (callX (cFk K P) X) (cBar P m ops) (dl P m ops) e0 n0 h0 ops.size).2 q:=fun q=>M.heap q ops.size (Nat.le_refl _) (fun i x hx _ _=>hagree i x hx)
    have he:∀ p,get p E=get p (trj sd (callX (cFk K P) X) (cBar P m ops) (dl P m ops) e0 n0 h0 ops.size).1:=fun p=>M.env p ops.size (Nat.le_refl _) (fun i x hx _=>hagree i x hx)
    obtain ⟨d1,d2,d3,d4,d5,d6,d7,_⟩:=D
    have Aw:Adv β U H w β (Lt (nm sd n0 ops.size)) H w:=⟨rfl,rfl,rfl,Nat.le_refl _,hU,fun _ _=>rfl,fun _ _ _=>rfl,fun _ _ h=>h⟩
    have Ax:Adv β (Lt (nm sd n0 ops.size)) H w β (Lt (nm sd n0 ops.size)) (trj sd (callX (cFk K P) X) (cBar P m ops) (dl P m ops) e0 n0 h0 ops.size).2 w:=Adv.ext hh
    refine hQ β a w ⟨(d1.wide hU).ext hh,⟨d2.1,fun t ht=>?_⟩,d3,d5.adv Ax,d6.adv Ax,d7⟩ ((d4.trans Aw).trans Ax)
    rw [← he]
    exact ((d2.2 t ht).adv Aw (Sub.refl _) _ hU).adv Ax (Sub.refl _) _ (Sub.refl _)
  intro fuel
  induction fuel with
  | zero =>
    intro listed U β E H a w hsz hc hDn M D
    have hall:∀ i,i < ops.size→listed.getD i false=true:=by
      intro i hi
      have:=cnt_zero (l:=listed.toList) (by omega) i (by simpa [hsz] using hi)
      simp only [Array.getElem?_toList] at this
      simp [Array.getD_eq_getD_getElem?,this]
    refine ⟨?_,done listed U β E H a w hsz hall M D⟩
    apply List.eq_nil_iff_forall_not_mem.2
    intro j hj
    rw [mem_ready] at hj
    obtain ⟨h1,o,ho,_⟩:=hj
    have hlt := (Array.getElem?_eq_some_iff.1 ho).1
    have h2:=hall j hlt
    rw [Array.getD_eq_getD_getElem?,Array.getElem?_eq_getElem (by omega)] at h1 h2
    simp only [Option.getD_some] at h1 h2
    rw [h1] at h2
    cases h2
  | succ fuel ih =>
    intro listed U β E H a w hsz hc hDn M D
    refine ⟨fun hr=>?_,fun j hj=>?_⟩
    · have hall:∀ i,i < ops.size→listed.getD i false=true:=by
        intro i
        induction i using Nat.strongRecOn with
        | _ i ihi =>
          intro hi
          cases hb:listed.getD i false with
          | true=>rfl
          | false =>
            exfalso
            have:i∈Region.ready .any ops listed:=by
              rw [mem_ready]
              refine ⟨?_,ops[i],by simp [hi],fun e he hbd=>?_⟩
              · rw [Array.getD_eq_getD_getElem?,Array.getElem?_eq_getElem (by omega)] at hb ⊢
                exact hb
              · have h1:=static i ops[i] (by simp [hi]) e he hbd
                exact ihi e.on h1 (by omega)
            rw [hr] at this
            cases this
      exact done listed U β E H a w hsz hall M D
    · rw [mem_ready] at hj
      obtain ⟨hj1,o,ho,hj2⟩:=hj
      have hjl := (Array.getElem?_eq_some_iff.1 ho).1
      have hjf:listed.getD j false=false:=by
        rw [Array.getD_eq_getD_getElem?,Array.getElem?_eq_getElem (by omega)] at hj1 ⊢
        exact hj1
      have hnS:¬ listed.getD j false=true:=by rw [hjf]; exact fun h=>by cases h
      have hx : (dl P m ops)[j]? = some (cOper P m ops o):=by
        rw [List.getElem?_map]
        have:ops.toList[j]? = some o:=by simpa using ho
        rw [this]; rfl
      have hSet : (fun i => (listed.setIfInBounds j true).getD i false=true)=Plus (fun i=>listed.getD i false=true) j:=by
        funext i
        apply propext
        by_cases e:j=i
        · subst e
          have : (listed.setIfInBounds j true).getD j false=true:=by
            rw [Array.getD_eq_getD_getElem?]
            simp [show j < listed.size by omega]
          exact ⟨fun _ => .inr rfl,fun _=>this⟩
        · rw [getD_set_ne false e]
          exact ⟨fun h => .inl h,fun h=>h.resolve_right (fun e2=>e e2.symm)⟩
      have hDn':Dn ops (Plus (fun i=>listed.getD i false=true) j):=by
        intro i o2 ho2 hi e he hb
        rcases hi with hi | rfl
        · exact .inl (hDn i o2 ho2 hi e he hb)
        · rw [ho] at ho2
          cases ho2
          exact .inl (hj2 e he hb)
      have hcnt:cnt (listed.setIfInBounds j true).toList≤fuel:=by
        rw [Array.toList_setIfInBounds]
        have:=cnt_set (l:=listed.toList) (i:=j) (by
          rw [Array.getD_eq_getD_getElem?,Array.getElem?_eq_getElem (by omega)] at hjf
          simp only [Array.getElem?_toList]
          rw [Array.getElem?_eq_getElem (by omega)]
          exact congrArg some hjf)
        omega
      have hgo:∀ (U':Us) (β':Nat→Bk) (E':Tr) (H':Hps) (a':Act) (w':World),Sim P m ops sd (callX (cFk K P) X) e0 n0 h0 (Plus (fun i=>listed.getD i false=true) j) E' H' →
          StD P s0 ro m ops Fb β0 n0 h0 w0 sd (Plus (fun i=>listed.getD i false=true) j) U' β' E' H' a' w'→wpAnyIn (FR ro) 0 P .any ops Q fuel (listed.setIfInBounds j true) a' w':=by
        intro U' β' E' H' a' w' M' D'
        refine ih (listed.setIfInBounds j true) U' β' E' H' a' w' (by simpa using hsz) hcnt ?_ ?_ ?_
        · rw [hSet]; exact hDn'
        · rw [hSet]; exact M'
        · rw [hSet]; exact D'
      have g:=hG j _ hx
      have hrd:=fun p hp=>M.reads (p:=p) hD hDn hDn' hnS hx hp
      have htc:=fun q hq=>M.touched (q:=q) hG hDn hDn' hnS hx hq
      unfold wpOpIn
      simp only [ho]
      cases hcd:cDst m o.dst with
      | none =>
        exfalso
        have hco:cOper P m ops o = .op none none .bad:=by unfold cOper; rw [hcd]
        rw [hco] at g
        have hw:=g.wnt
        cases hb : (nxt (callX (cFk K P) X) ((cBar P m ops).getD j false) (trj sd (callX (cFk K P) X) (cBar P m ops) (dl P m ops) e0 n0 h0 j).1 (nm sd n0 j) (trj sd (callX (cFk K P) X) (cBar P m ops) (dl P m ops) e0 n0 h0 j).2 (.op none none .bad)).1 with
        | true=>obtain ⟨_,_,h9⟩ := (g.yes hb).2.1; cases h9
        | false=>rw [hb] at hw; cases hw
      | some dp =>
      cases hcg:cG m ops o.guard with
      | none =>
        exfalso
        have hco:cOper P m ops o = .op none none .bad:=by unfold cOper; rw [hcd,hcg]
        rw [hco] at g
        have hw:=g.wnt
        cases hb : (nxt (callX (cFk K P) X) ((cBar P m ops).getD j false) (trj sd (callX (cFk K P) X) (cBar P m ops) (dl P m ops) e0 n0 h0 j).1 (nm sd n0 j) (trj sd (callX (cFk K P) X) (cBar P m ops) (dl P m ops) e0 n0 h0 j).2 (.op none none .bad)).1 with
        | true=>obtain ⟨_,_,h9⟩ := (g.yes hb).2.1; cases h9
        | false=>rw [hb] at hw; cases hw
      | some gg =>
        have hco:cOper P m ops o = .op dp gg (cOp P m o):=by unfold cOper; rw [hcd,hcg]
        rw [hco] at g hx hrd
        have hwE:want E gg=want (trj sd (callX (cFk K P) X) (cBar P m ops) (dl P m ops) e0 n0 h0 j).1 gg:=by
          cases gg with
          | none=>rfl
          | some q=>show wantB q.2 (get q.1 E)=wantB q.2 (get q.1 _); rw [hrd q.1 (by simp [rdP,rdG])]
        have hw1:want E gg = .ok (nxt (callX (cFk K P) X) ((cBar P m ops).getD j false) (trj sd (callX (cFk K P) X) (cBar P m ops) (dl P m ops) e0 n0 h0 j).1 (nm sd n0 j) (trj sd (callX (cFk K P) X) (cBar P m ops) (dl P m ops) e0 n0 h0 j).2 (.op dp gg (cOp P m o))).1:=hwE.trans g.wnt
        rw [want_ok (ops:=ops) D.env D.sz hcg hw1]
        cases hb : (nxt (callX (cFk K P) X) ((cBar P m ops).getD j false) (trj sd (callX (cFk K P) X) (cBar P m ops) (dl P m ops) e0 n0 h0 j).1 (nm sd n0 j) (trj sd (callX (cFk K P) X) (cBar P m ops) (dl P m ops) e0 n0 h0 j).2 (.op dp gg (cOp P m o))).1 with
        | false =>
          obtain ⟨k1,k2,k3⟩:=g.no hb
          simp only [Bool.false_eq_true,if_false]
          refine ⟨fun _ _=>trivial,?_⟩
          have M':=M.step hD hG hDn hDn' hnS hx (H':=H) (fun q hq=>by rw [k2]; exact htc q hq) (fun _ _=>rfl)
          rw [k1] at M'
          exact hgo U β _ H _ w M' (D.next (j:=j) (d := .tup []) hcd (.tup #[] [] rfl (fun i hi=>absurd hi (Nat.not_lt_zero _))) D.inv (Adv.refl _ _ _ _) D.uok.same)
        | true =>
          obtain ⟨k1,⟨n1,k0,k2⟩,k3⟩:=g.yes hb
          simp only [if_true]
          have hEv:∀ p,p∈rdOp (cOp P m o)→get p (trj sd (callX (cFk K P) X) (cBar P m ops) (dl P m ops) e0 n0 h0 j).1=get p E:=fun p hp => (hrd p (List.mem_append_right _ hp)).symm
          by_cases hbar:Bar P m ops j
          · obtain ⟨hl2,hbt,hnc⟩:=bar_loud hx hbar
            rcases cOp_call (P:=P) (m:=m) o with ⟨c,f,hoc,hcc⟩ | ⟨c,x9,k9,hoc,hcc⟩ | hn
            rotate_left 1
            · exact absurd (show opP _ _ _ _ _ (cOp P m o) = .ok _ _ _ from k2) (by rw [opP_invoke hoc hcc]; exact fun h=>by cases h)
            rotate_left 1
            · have hcop:cOp P m o = .call (cO m f) (cOs m c.args):=by
                unfold cOp; rw [hoc]; show cCall P m c=_; unfold cCall; rw [hcc]
              have hl:0 < loud (oP (DOper.op dp gg (cOp P m o))):=by omega
              rw [hcop] at hEv
              have e2:ev (trj sd (callX (cFk K P) X) (cBar P m ops) (dl P m ops) e0 n0 h0 j).1 (cO m f)=ev E (cO m f):=ev_eq (fun p hp=>hEv p (List.mem_append_left _ hp))
              have e3:evs (trj sd (callX (cFk K P) X) (cBar P m ops) (dl P m ops) e0 n0 h0 j).1 (cOs m c.args)=evs E (cOs m c.args):=evs_same (fun p hp=>hEv p (List.mem_append_right _ hp))
              have e1:opP (callX (cFk K P) X) ((cBar P m ops).getD j false) (trj sd (callX (cFk K P) X) (cBar P m ops) (dl P m ops) e0 n0 h0 j).1 (nm sd n0 j) (trj sd (callX (cFk K P) X) (cBar P m ops) (dl P m ops) e0 n0 h0 j).2 (cOp P m o)=callX (cFk K P) X (nm sd n0 j+1) (trj sd (callX (cFk K P) X) (cBar P m ops) (dl P m ops) e0 n0 h0 j).2 (ev E (cO m f)) (evs E (cOs m c.args)):=by
                rw [hcop,hbt,← e2,← e3]; rfl
              replace k2:opP (callX (cFk K P) X) ((cBar P m ops).getD j false) (trj sd (callX (cFk K P) X) (cBar P m ops) (dl P m ops) e0 n0 h0 j).1 (nm sd n0 j) (trj sd (callX (cFk K P) X) (cBar P m ops) (dl P m ops) e0 n0 h0 j).2 (cOp P m o)=_:=k2
              rw [e1] at k2
              have hhe:∀ q,getO H q=getO (trj sd (callX (cFk K P) X) (cBar P m ops) (dl P m ops) e0 n0 h0 j).2 q:=fun q=>htc q (.inr hbar)
              have M':=M.step hD hG hDn hDn' hnS hx (H' := (trj sd (callX (cFk K P) X) (cBar P m ops) (dl P m ops) e0 n0 h0 (j+1)).2) (fun q _=>rfl) (fun q hq=>absurd (.inr hbar) hq)
              have hord:∀ i x,(dl P m ops)[i]? = some x→0 < loud (oP x)→i≠j → (listed.getD i false=true↔i < j):=by
                intro i x hx2 hl3 hne
                have hbb:=bar_bound hx hx2 hbt hl3 hne
                refine ⟨fun hs=>?_,fun h=>order_lt hDn' h (hbb.1 h)⟩
                rcases Nat.lt_trichotomy i j with h | h | h
                · exact h
                · exact absurd h hne
                · exact absurd hs (order_gt hDn hnS (hbb.2 h))
              have hsd1:nm sd n0 j < nm sd n0 (j+1):=by rw [nm_succ]; omega
              have hs1 := (D.uok.bar hnS hx hl hord (Nat.le_refl _) hsd1).1
              have Aw:Adv β U H w β (Lt (nm sd n0 j)) H w:=⟨rfl,rfl,rfl,Nat.le_refl _,hs1,fun _ _=>rfl,fun _ _ _=>rfl,fun _ _ h=>h⟩
              have Ax:Adv β (Lt (nm sd n0 j)) H w β (Lt (nm sd n0 j)) (trj sd (callX (cFk K P) X) (cBar P m ops) (dl P m ops) e0 n0 h0 j).2 w:=Adv.ext hhe
              have SS:St P s0 ro m Fb β (nm sd n0 j) (trj sd (callX (cFk K P) X) (cBar P m ops) (dl P m ops) e0 n0 h0 j).2 E a w :=
                ⟨(D.inv.wide hs1).ext hhe,⟨D.env.1,fun t ht => ((D.env.2 t ht).adv Aw (Sub.refl _) _ hs1).adv Ax (Sub.refl _) _ (Sub.refl _)⟩,D.sz,D.dfr.adv Ax,D.rnd.adv Ax,D.s0⟩
              refine call_ok hX hXb SS hoc hcc k2 (fun v β' w' q1 q2 q3=>?_)
              have hle:nm sd n0 j≤n1:=by
                rcases Nat.lt_or_ge n1 (nm sd n0 j) with h | h
                · exact absurd (q3.num n1 h) (Nat.lt_irrefl _)
                · exact h
              exact hgo _ β' _ _ _ w' M' (D.next (j:=j) hcd q1 q2 ((Aw.trans Ax).trans q3) (D.uok.bar hnS hx hl hord hle (by rw [nm_succ]; exact k0)).2)
            · rw [show oP (DOper.op dp gg (cOp P m o))=cOp P m o from rfl,hn] at hnc; cases hnc
          · have hnc : (cBar P m ops).getD j false=true→notCall (cOp P m o)=true:=by
              intro e
              cases hn:notCall (cOp P m o) with
              | true=>rfl
              | false=>exact absurd ⟨e,_,hx,hn⟩ hbar
            obtain ⟨H1,f1,f2,f3⟩:=opP_frame (h':=H) hnc hEv k2 (fun q hq => (htc q (.inl (k1 ▸ hq))).symm)
            have M':=M.step hD hG hDn hDn' hnS hx (H':=H1) (fun q hq=>f2 q (k1 ▸ (hq.resolve_right hbar))) (fun q hq => (f3 q (fun h=>hq (.inl (k1 ▸ h)))).2)
            rcases cOp_call (P:=P) (m:=m) o with ⟨c,f,hoc,hcc⟩ | ⟨c,x9,k9,hoc,hcc⟩ | hn
            rotate_left 1
            · exact absurd (show opP _ _ _ _ _ (cOp P m o) = .ok _ _ _ from k2) (by rw [opP_invoke hoc hcc]; exact fun h=>by cases h)
            rotate_left 1
            · have hcop:cOp P m o = .call (cO m f) (cOs m c.args):=by
                unfold cOp; rw [hoc]; show cCall P m c=_; unfold cCall; rw [hcc]
              have hbf : (cBar P m ops).getD j false=false:=by
                cases hb2 : (cBar P m ops).getD j false with
                | false=>rfl
                | true=>have:=hnc hb2; rw [hcop] at this; cases this
              have e1:opP (callX (cFk K P) X) ((cBar P m ops).getD j false) E (nm sd n0 j) H (cOp P m o)=apartC (callX (cFk K P) X) (nm sd n0 j) H (ev E (cO m f)) (evs E (cOs m c.args)) (rfL (rd 20) (evs E (cOs m c.args))):=by
                rw [hcop,hbf]; rfl
              rw [e1] at f1
              have hl:0 < loud (oP (DOper.op dp gg (cOp P m o))):=by show 0 < loud (cOp P m o); rw [hcop]; exact Nat.zero_lt_two
              have hfr:=fun r h1 h2=>D.uok.fresh j _ hx hnS hl r h1 (by rw [nm_succ]; exact h2)
              cases hR:rfL (rd 20) (evs E (cOs m c.args)) with
              | cons r0 R0 =>
                rw [hR] at f1
                exact pure_ok hX hXb D.inv D.env D.sz hoc hcc (sd:=sd) hfr k0 f1 (fun v β' w' _ q1 q2 q3=>hgo _ β' _ H1 _ w' M' (D.next (j:=j) hcd q1 q2 q3 (D.uok.ran hx hl (fun r hr=>hr.imp id fun e=>⟨e.1,by rw [nm_succ]; exact e.2⟩) (fun r hr => .inl hr))))
              | nil =>
                rw [hR] at f1
                replace f1:capC (callX (cFk K P) X) (nm sd n0 j) H (ev E (cO m f)) (evs E (cOs m c.args)) (rd 20 (ev E (cO m f))) = .ok _ _ _:=f1
                cases hC:rd 20 (ev E (cO m f)) with
                | nil =>
                  rw [hC] at f1
                  exact pure_ok hX hXb D.inv D.env D.sz hoc hcc (sd:=sd) hfr k0 f1 (fun v β' w' _ q1 q2 q3=>hgo _ β' _ H1 _ w' M' (D.next (j:=j) hcd q1 q2 q3 (D.uok.ran hx hl (fun r hr=>hr.imp id fun e=>⟨e.1,by rw [nm_succ]; exact e.2⟩) (fun r hr => .inl hr))))
                | cons r0 R0 =>
                  rw [hC] at f1
                  exact snap_ok hX hXb D.inv D.env D.sz hoc hcc (sd:=sd) hfr k0 f1 (fun v β' w' q1 q2 q3=>hgo _ β' _ H1 _ w' M' (D.next (j:=j) hcd q1 q2 q3 (D.uok.ran hx hl (fun r hr=>hr.imp id fun e=>⟨e.1,by rw [nm_succ]; exact e.2⟩) (fun r hr => .inl hr))))
            · have hpd:∀ b e n h,opP (callX (cFk K P) X) b e n h (cOp P m o)=opD e n h (cOp P m o):=by
                intro b e n h
                cases hh:cOp P m o <;> first | rfl | (rw [hh] at hn; cases hn)
              rw [hpd] at f1
              have hlo:newO P o=true→0 < loud (cOp P m o):=by
                intro hnew
                rcases newO_loud (P:=P) (m:=m) hnew with e | e
                · rw [e] at f1; cases f1
                · omega
              have hsd1:nm sd n0 j < nm sd n0 (j+1):=by rw [nm_succ]; omega
              refine ⟨fun _ _=>trivial,?_⟩
              rw [Oper.semAt_eq _ _ _ (not_defer f1)]
              rcases opD_ok (P:=P) D.inv D.env D.sz o (fun hnew=>D.uok.fresh j _ hx hnS (hlo hnew) _ (Nat.le_refl _) hsd1) f1 with ⟨v,r1,rfl,r2⟩ | ⟨hnew,v,w',β',r1,r2,r3,r4⟩
              · rw [r1]
                exact hgo U β _ H1 _ w M' (D.next (j:=j) hcd r2 D.inv (Adv.refl _ _ _ _) D.uok.same)
              · have hu:=D.uok.ran hx (hlo hnew) (V:=Ad U (nm sd n0 j)) (fun r hr=>hr.imp id fun (e:r=nm sd n0 j)=>⟨Nat.le_of_eq e.symm,by rw [e]; exact hsd1⟩) (Sub.ad _ _)
                rcases r1 with r1 | ⟨r1,rfl⟩
                · rw [r1]; exact hgo _ β' _ H1 _ w' M' (D.next (j:=j) hcd r2 r3 r4 hu)
                · rw [r1]; exact hgo _ β' _ H1 _ w' M' (D.next (j:=j) hcd r2 r3 r4 hu)

theorem draw_ok (hmix:P.follows .mixedOrders=true):∀ X,CodeOk P X → (∀ e n h,X .bad e n h = .bad)→DrawOk (K:=K) P X:=by
  intro X hX hXb id ops s0 ro m Fb β n h e a w x e' n' h' Q S hD hd hQ
  have hn0:nm stride n 0=n:=by unfold nm; omega
  obtain ⟨rfl,rfl,rfl,rfl,hG⟩:=draw_good (sd:=stride) (call:=callX (cFk K P) X) (bar:=cBar P m ops) (L:=dl P m ops) (e0:=e) (n0:=n) (h0:=h) (un:=cUn P m ops) (dl P m ops) 0 (cUn P m ops) (cBar P m ops) [] rfl (by simp) rfl rfl (fun i hi=>absurd hi (Nat.not_lt_zero _)) (by rw [hn0]; exact hd)
  have hlen : (dl P m ops).length=ops.size:=by simp
  rw [hlen] at hQ
  have hr0:∀ i,(Array.replicate ops.size false).getD i false=true→False:=by
    intro i hi
    have : (Array.replicate ops.size false).getD i false=false:=by
      rw [Array.getD_eq_getD_getElem?,Array.getElem?_replicate]
      split <;> rfl
    rw [this] at hi
    cases hi
  have hcnt0:∀ k,cnt (List.replicate k false)=k:=by
    intro k
    induction k with
    | zero=>rfl
    | succ k ih=>show cnt (List.replicate k false)+1=k+1; rw [ih]
  refine wpIn_region_any hmix (any_ok (sd:=stride) (n0:=n) (h0:=h) (e0:=e) (β0:=β) (w0:=w) (by unfold stride; omega) hX hXb hD (fun j y hy=>hG j y (Nat.zero_le _) hy) (fun β' a' w' S' A'=>hQ β' a' w' S' A') ops.size _ (Lt n) β e h a _ (by simp) (by simp [hcnt0]) ?_ ?_ ?_)
  · intro j o _ hj; exact (hr0 j hj).elim
  · have hzero:∀ {C:Nat→DOper→Prop} {t:Nat},t≤ops.size → (∀ i x,(dl P m ops)[i]? = some x→C i x → ((Array.replicate ops.size false).getD i false=true↔i < t))→∀ i x,i < t → (dl P m ops)[i]? = some x→¬ C i x :=
      fun ht hw i x hi hx hc=>hr0 i ((hw i x hx hc).2 hi)
    have hget:∀ i,i < ops.size→∃ y,(dl P m ops)[i]? = some y:=fun i hi=>⟨cOper P m ops ops[i],by simp [hi]⟩
    refine ⟨fun p t=>?_,fun q t=>?_⟩
    · induction t with
      | zero=>intro _ _; rfl
      | succ t ih =>
        intro ht hw
        obtain ⟨y,hy⟩:=hget t (by omega)
        have hn:=hzero (C:=fun i x=>p∈wrP x) ht hw t y (Nat.lt_succ_self _) hy
        rw [(hG t y (Nat.zero_le _) hy).env]
        have hput:get p (putE (trj stride (callX (cFk K P) X) (cBar P m ops) (dl P m ops) e n h t).1 (dP y) (nxt (callX (cFk K P) X) ((cBar P m ops).getD t false) (trj stride (callX (cFk K P) X) (cBar P m ops) (dl P m ops) e n h t).1 (nm stride n t) (trj stride (callX (cFk K P) X) (cBar P m ops) (dl P m ops) e n h t).2 y).2.1)=get p (trj stride (callX (cFk K P) X) (cBar P m ops) (dl P m ops) e n h t).1:=by
          obtain ⟨dst,g,o⟩:=y
          cases dst with
          | none=>rfl
          | some r=>exact get_put_ne _ p r _ (fun h=>hn (by simp [wrP,wrD,h]))
        rw [hput]
        refine ih (by omega) (fun i x hx hc=>⟨fun h => (hr0 i h).elim,fun hlt=>?_⟩)
        exact (hw i x hx hc).2 (by omega)
    · induction t with
      | zero=>intro _ _; rfl
      | succ t ih =>
        intro ht hw
        obtain ⟨y,hy⟩:=hget t (by omega)
        rw [heap_kept (fun j y hy=>hG j y (Nat.zero_le _) hy) hy (fun hc=>hr0 t ((hw t y hy hc.1 hc.2).2 (Nat.lt_succ_self _)))]
        refine ih (by omega) (fun i x hx hl hc=>⟨fun h => (hr0 i h).elim,fun hlt=>?_⟩)
        exact (hw i x hx hl hc).2 (by omega)
  · exact ⟨Inv.gen (w:=w) (Nat.le_refl _) (fun _ _ _ _ _ _=>rfl) (fun _ _=>rfl) S.inv,EnvOk.gen (w:=w) (Nat.le_refl _) (fun _ _ _ _ _ _=>rfl) S.env,S.sz,⟨rfl,rfl,rfl,Nat.le_refl _,Sub.refl _,fun _ _=>rfl,fun _ _ _=>rfl,fun _ _ h=>h⟩,S.dfr,S.rnd,S.s0,⟨fun r hr=>hr,fun i x _ _ _ r h1 _ hr=>absurd (Nat.lt_of_le_of_lt (Nat.le_trans nm_le h1) hr) (Nat.lt_irrefl _),fun r hr => .inl hr⟩⟩

theorem solo_ok (X:RunF) (hX:CodeOk P X) (hXb:∀ e n h,X .bad e n h = .bad):SoloOk K P X:=by
  intro s0 ro m Fb β n h e a w S o c f ho hc d n' h' hd next Q hnext
  refine pure_ok (sd:=n'+1 - n) hX hXb S.inv S.env S.sz ho hc (fun r h1 _ h2=>by have:r < n:=h2; omega) (by omega) hd (fun v β' w' hn q1 q2 q3=>?_)
  have hs:Sub (Ran (Lt n) (n'+1 - n) n) (Lt (n'+1)):=fun r hr=>by
    rcases hr with hr | ⟨_,hr⟩
    · have:r < n:=hr
      show r < n'+1
      omega
    · show r < n'+1
      omega
  have Aw:Adv β' (Ran (Lt n) (n'+1 - n) n) h' w' β' (Lt (n'+1)) h' w':=⟨rfl,rfl,rfl,Nat.le_refl _,hs,fun _ _=>rfl,fun _ _ _=>rfl,fun _ _ h=>h⟩
  exact hnext v β' w' (q1.adv Aw (Sub.refl _) _ hs) (q2.wide hs) (q3.trans Aw)
theorem run_ok (hmix:P.follows .mixedOrders=true) (fuel:Nat):CodeOk P (exec (cFk K P) fuel):=exec_ok (K:=K) (draw_ok hmix) solo_ok fuel
end
end Go.Proofs.Ytpbpmpabndgeeaa
