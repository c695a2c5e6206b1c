/- From a statement's words to data, second part: a law that holds of data is the statement. No condition. -/
import Derived.Test.YtpbpmpabndgeeaaA29
import Derived.JoinedCond
set_option linter.unusedSimpArgs false
set_option linter.unusedVariables false
namespace Go.Proofs.Ytpbpmpabndgeeaa
open Go Go.RowKit Go.WideShapes Go.ChangeShapes

section
variable {H:Type} {enc:TypeId×Value→H} {P:Program} {K:Nat→Bool} {w:World} {β:Nat→Bk}

theorem mapM_all {α γ:Type} {f:α→Option γ} {l:List α} {r:List γ} (h:l.mapM f=some r):∀ y,y∈r→∃ a,a∈l∧f a=some y:=by
  intro y hy
  obtain ⟨i,hi,rfl⟩:=List.mem_iff_getElem.1 hy
  have hl:=mapM_some_length h
  obtain ⟨a,z,h1,h2,h3⟩:=mapM_get h i (by omega)
  rw [List.getElem?_eq_getElem hi] at h2
  cases h2
  exact ⟨a,List.mem_of_getElem? h1,h3⟩

theorem trod_fit:∀ (f:Nat) (t:TypeId) (cs:List Value) (x:DataW H×List MemPlace),DataW.trod enc P w 0 (fun _=>true) true f t cs=some x→Fit P f t x.1:=by
  intro f
  induction f with
  | zero=>intro t cs x h; simp [DataW.trod] at h
  | succ f ih =>
    intro t cs x h
    rw [DataW.trod_step] at h
    unfold DataW.trodStep at h
    split at h
    · rename_i hu; cases h; simp only [Fit,hu]; exact ⟨_,rfl⟩
    · rename_i hu
      split at h
      · rename_i hk
        cases h; simp only [Fit,hu]
        obtain ⟨rfl,hw⟩:=hk
        simp only [Lit.wf,Bool.and_eq_true,decide_eq_true_eq] at hw
        exact ⟨_,rfl,hw⟩
      · cases h
    · rename_i hu; simp only [Fit,hu]
    · rename_i hu
      split at h
      · rename_i hs
        cases h; simp only [Fit,hu]; exact ⟨_,rfl,by simpa using hs⟩
      · cases h
    · rename_i hu; cases h; simp only [Fit,hu]; exact .inl trivial
    · rename_i e a hu
      simp only [Option.map_eq_some_iff,Option.bind_eq_some_iff] at h
      obtain ⟨y,⟨cs',hc,hy⟩,rfl⟩:=h
      simp only [Fit,hu]
      exact .inr ⟨_,rfl,ih e cs' y hy⟩
    · rename_i hu; cases h; simp only [Fit,hu]; exact .inl trivial
    · rename_i e a len cap hu
      simp only at h
      split at h
      · rename_i hcnd
        obtain ⟨_,hlc,hcm⟩:=hcnd
        simp only [if_true,Option.map_eq_some_iff,Option.bind_eq_some_iff] at h
        obtain ⟨elems,he,rest,hrest,rfl⟩:=h
        have hl1:elems.length=len:=by simpa using mapM_some_length he
        have hl2:rest.length=cap - len:=by simpa using mapM_some_length hrest
        simp only [Fit,hu]
        refine .inr ⟨_,_,rfl,by simp only [List.length_map]; omega,fun y hy=>?_⟩
        rw [List.mem_append,List.mem_map,List.mem_map] at hy
        rcases hy with ⟨z,hz,rfl⟩ | ⟨z,hz,rfl⟩
        · obtain ⟨i,_,h3⟩:=mapM_all he z hz
          simp only [Option.bind_eq_some_iff] at h3
          obtain ⟨cs',_,h4⟩:=h3
          exact ih e cs' z h4
        · obtain ⟨i,_,h3⟩:=mapM_all hrest z hz
          simp only [Option.bind_eq_some_iff] at h3
          obtain ⟨cs',_,h4⟩:=h3
          exact ih e cs' z h4
      · cases h
    · rename_i cs _ _ fs hu
      split at h
      · rename_i hlen
        simp only [Option.map_eq_some_iff] at h
        obtain ⟨xs,hx,rfl⟩:=h
        have hlx:=mapM_some_length hx
        simp only [Fit,hu]
        refine ⟨_,rfl,by simp only [List.length_map]; exact hlx,fun q hq=>?_⟩
        obtain ⟨i,hi,rfl⟩:=List.mem_iff_getElem.1 hq
        have hil:i < fs.toList.length:=by simp only [List.length_zip] at hi; omega
        obtain ⟨fl,y,g1,g2,g3⟩:=mapM_get hx i hil
        have h6 : (fs.toList.zip (xs.map (·.1)))[i]? = some (fl,y.1):=by
          rw [List.getElem?_zip_eq_some]
          exact ⟨g1,by rw [List.getElem?_map,g2]; rfl⟩
        rw [List.getElem?_eq_getElem hi] at h6
        rw [Option.some.inj h6]
        exact ih _ _ y g3
      · cases h
    · rename_i hu; simp only [Fit,hu]
    · rename_i hu; simp only [Fit,hu]
    · rename_i hu; simp only [Fit,hu]
    · rename_i hu; simp only [Fit,hu]
    · rename_i hu; simp only [Fit,hu]
    · rename_i hu; simp only [Fit,hu]
    · rename_i hu; simp only [Fit,hu]
    · rename_i hu; simp only [Fit,hu]
    · rename_i hu; simp only [Fit,hu]
    · rename_i hu; simp only [Fit,hu]
    · rename_i hu; simp only [Fit,hu]
    · cases h

theorem agg_inv {cs:Array Value} {d:D} (hd:∃ l,d = .agg l) (h:CR w β cs.toList d):Rep w (Mk β (fun _=>False) []) β No (.agg cs) d:=by
  obtain ⟨l,rfl⟩:=hd
  obtain ⟨h1,h2,h3⟩:=h
  have h1:l.length=cs.toList.length:=h1
  refine .agg cs l (by simpa using h1.symm) (fun i hi=>?_) (fun i hi=>?_)
  · have:=h2 i (by omega); rwa [getD_toList] at this
  · have:=h3 i (by omega); rwa [getD_toList] at this

theorem arg_rep (K:Kids P (· < P.types.size)) (hz:∀ t e,t < P.types.size→P.underlying t=some (.slice e)→0 < P.cellsOf e) {W0:World} {b:Nat} {t:TypeId} {v:Value} (ht:t < P.types.size) (hok:Value.okWide P W0 .any b t v) {d:DataW H} {ps:List MemPlace}
    (h:DataW.Trod enc P w 0 (fun _=>true) true t v d ps):∃ f,Fit P f t d∧Rep w (Mk β (fun _=>False) []) β No v (dVal P f t d):=by
  obtain ⟨f,hf⟩:=h
  have h1:=trod_rep (β:=β) K hz f t _ _ ht hf
  refine ⟨f,trod_fit f t _ _ hf,?_⟩
  have hfit:=trod_fit f t _ _ hf
  cases f with
  | zero=>cases hfit
  | succ f =>
  have single:v.cells = #[v]→cells (dVal P (f+1) t d)=[dVal P (f+1) t d]→Rep w (Mk β (fun _=>False) []) β No v (dVal P (f+1) t d):=by
    intro e1 e2
    have:=h1.rep 0 (by rw [e1]; simp)
    rw [e1,e2] at this
    exact this
  unfold Value.okWide at hok
  cases hu:P.underlying t with
  | none=>rw [hu] at hok; simp only [Cell.okWide,Cell.ok,hu] at hok
  | some T =>
    rw [hu] at hok
    simp only [Fit,hu] at hfit
    cases T with
    | struct fs =>
      obtain ⟨cs,rfl,_⟩:=hok
      obtain ⟨xs,rfl,_⟩:=hfit
      exact agg_inv ⟨_,by simp only [dVal,hu]; rfl⟩ h1
    | array n e =>
      obtain ⟨cs,rfl,_⟩:=hok
      have:DataW.trod enc P w 0 (fun _=>true) true (f+1) t cs.toList=some (d,ps):=hf
      rw [DataW.trod_step] at this
      unfold DataW.trodStep at this
      simp only [hu] at this
      split at this
      · simp only [Option.map_eq_some_iff] at this
        obtain ⟨xs,_,e⟩:=this
        cases e
        exact agg_inv ⟨_,by simp only [dVal,hu]; rfl⟩ h1
      · cases this
    | bool =>
      obtain ⟨x,rfl⟩:=hfit
      refine single ?_ (by simp only [dVal,hu]; rfl)
      cases v <;> first | rfl | (simp only [Cell.okWide,Cell.ok,hu] at hok)
    | int k =>
      obtain ⟨x,rfl,_⟩:=hfit
      refine single ?_ (by simp only [dVal,hu]; rfl)
      cases v <;> first | rfl | (simp only [Cell.okWide,Cell.ok,hu] at hok)
    | string =>
      obtain ⟨x,rfl,_⟩:=hfit
      refine single ?_ (by simp only [dVal,hu]; rfl)
      cases v <;> first | rfl | (simp only [Cell.okWide,Cell.ok,hu] at hok)
    | slice e =>
      refine single ?_ ?_
      · cases v <;> first | rfl | (simp only [Cell.okWide,Cell.ok,hu] at hok)
      · rcases hfit with rfl | ⟨es,sp,rfl,_⟩ <;> (simp only [dVal,hu]; rfl)
    | pointer e =>
      refine single ?_ ?_
      · cases v <;> first | rfl | (simp only [Cell.okWide,Cell.ok,hu] at hok)
      · rcases hfit with rfl | ⟨y,rfl,_⟩
        · simp only [dVal,hu]; rfl
        · simp only [dVal,hu]; split <;> rfl
    | _ =>
      refine single ?_ ?_
      · cases v <;> first | rfl | (simp only [Cell.okWide,Cell.ok,hu] at hok)
      · have:dVal P (f+1) t d = .junk∨dVal P (f+1) t d = .nilm:=by
          simp only [dVal,hu]
          cases d <;> first | exact .inl trivial | exact .inl rfl | exact .inr trivial | exact .inr rfl
        rcases this with e | e <;> rw [e] <;> rfl

theorem args_rep (K:Kids P (· < P.types.size)) (hz:∀ t e,t < P.types.size→P.underlying t=some (.slice e)→0 < P.cellsOf e) {W0:World} {b:Nat}:∀ {ts:List TypeId} {vs:List Value} {ds:List (DataW H)} {ps:List MemPlace},(∀ t∈ts,t < P.types.size) →
    (∀ (j:Nat) t v,ts[j]? = some t→vs[j]? = some v→Value.okWide P W0 .any b t v)→DataW.TrodAll enc P w 0 (fun _=>true) true ts vs ds ps →
    ∃ l,ArgsAre P ts ds l∧vs.length=l.length∧∀ i,i < l.length→Rep w (Mk β (fun _=>False) []) β No (vs.getD i undef) (l.getD i .junk)
  | [],[],[],_,_,_,_=>⟨[],trivial,rfl,fun i hi=>absurd hi (Nat.not_lt_zero _)⟩
  | t::ts,v::vs,d::ds,_,hT,hok,⟨p,q,h1,h2,_⟩=>by
    obtain ⟨f,g1,g2⟩:=arg_rep (β:=β) K hz (hT t (by simp)) (hok 0 t v rfl rfl) h1
    obtain ⟨l,g3,g4,g5⟩:=args_rep K hz (fun t ht=>hT t (by simp [ht])) (fun j t v ht hv=>hok (j+1) t v (by simpa using ht) (by simpa using hv)) h2
    refine ⟨dVal P f t d::l,⟨⟨f,rfl,g1⟩,g3⟩,by simpa using g4,fun i hi=>?_⟩
    cases i with
    | zero=>exact g2
    | succ i=>simpa using g5 i (by simpa using hi)

theorem trodAll_carried {w':World} {base:Nat} {sp:Nat→Bool} {hd:Bool}:∀ {ts:List TypeId} {vs:List Value} {ds:List (DataW H)} {ps:List MemPlace},DataW.TrodAll enc P w base sp hd ts vs ds ps → (∀ p∈ps,w.sameAt w' p)→DataW.TrodAll enc P w' base sp hd ts vs ds ps
  | [],[],[],_,h,_=>h
  | _::_,_::_,_::_,_,⟨p,q,⟨f,h1⟩,h2,e⟩,hs=>⟨p,q,⟨f,DataW.trod_carry f _ _ _ h1 (fun x hx=>hs x (by rw [e]; exact List.mem_append_left _ hx))⟩,trodAll_carried h2 (fun x hx=>hs x (by rw [e]; exact List.mem_append_right _ hx)),e⟩

theorem law_contract {C:Checked} {f:FuncId} {fn:Func} {s:ChangeSpec} {apart fresh handsOn again:Bool} {tb:TypeId}
    (hmix:C.prog.follows .mixedOrders=true) (hl:laidOutB C.prog=true) (hm:mapsRowed C.prog=true)
    (hsl : ((List.range C.prog.types.size).all fun t=>match C.prog.underlying t with | some (.slice e)=>decide (0 < C.prog.cellsOf e) | _=>true)=true)
    (hts:fn.params.toList.all (fun t=>decide (t < C.prog.types.size))=true) (hres:fn.resultTypes = #[tb]) (htb:C.prog.underlying tb=some .bool)
    (hvars:s.vars=[]) (hs:∀ ds:List (DataW H),ds.length=fn.params.toList.length→s.fn H ds={ results:=[.lit (.bool true)],args:=ds })
    {W:World} {base:Nat} {args:Array Value} {ds gs:List (DataW H)} {before:List MemPlace}
    (hval:∀ (j:Nat) t v,fn.params[j]? = some t→args[j]? = some v→Value.okWide C.prog W .any base t v)
    (hW:DataW.Whole enc C.prog fn.params.toList s.vars apart W args.toList ds gs before)
    (law:∀ (l:List D),ArgsAre C.prog fn.params.toList ds l→∃ n' h',callFn (LX (cFk K C.prog)) 0 [] l (cFk K C.prog f) = .ok (.bool true) n' h') :
    Calls C.prog f args W fun e W'=>∃ v,e = .returned v∧s.post enc C.prog fn apart fresh handsOn again W args v W':=by
  have KR:=kids_rows hl hm
  have hz:=slices_full_of C.prog hsl
  have hts':∀ t∈fn.params.toList,t < C.prog.types.size:=fun t ht=>by simpa using List.all_eq_true.1 hts t ht
  have hW':=hW
  obtain ⟨p,q,hA,hV,rfl,hfz,hnd⟩:=hW
  rw [hvars] at hV
  obtain ⟨rfl,rfl⟩:gs=[]∧q=[]:=by
    cases gs with
    | nil=>exact ⟨rfl,hV⟩
    | cons g gs=>exact hV.elim
  obtain ⟨l,g1,g2,g3⟩:=args_rep (β:=fun _=>⟨0,0,0⟩) KR hz hts' (fun j t v ht hv=>hval j t v (by simpa using ht) (by simpa using hv)) hA
  obtain ⟨n',h',hrun⟩:=law l g1
  obtain ⟨i,hi⟩:=callFn_exec (cFk K C.prog) hrun
  have I0:Inv (RCc C.prog) (fun _=>⟨0,0,0⟩) (Lt 0) (fun _=>False) [] W :=
    ⟨fun r hr=>absurd rfl hr,fun r hr=>absurd rfl hr,fun r=>trivial,fun r q hr=>absurd rfl hr,fun b hb=>hb.elim⟩
  have hrep:∀ i,i < l.length→Rep W (Mk (fun _=>⟨0,0,0⟩) (fun _=>False) []) (fun _=>⟨0,0,0⟩) (Lt 0) (args.getD i undef) (l.getD i .junk):=fun i hi=>by
    have:=g3 i hi
    rw [getD_toList] at this
    rw [Lt_zero]
    exact this
  obtain ⟨fn',c,f1,f2,f3,f4⟩:=callFn_ok (run_ok hmix i) (exec_bad (cFk K C.prog) i) I0 (by simpa using g2) hrep hi
  have hcalls:Calls C.prog f args W (CallPost C.prog (fun _=>False) (fun _=>⟨0,0,0⟩) 0 [] W (.bool true) n' h'):=by
    have:=f4 none
    exact callsIn_wide.1 this
  refine hcalls.mono fun e W' hp=>?_
  obtain ⟨v,β',rfl,p1,p2,p3⟩:=hp
  have hv:v = .bool true:=p1.bool_inv
  subst hv
  have hb:Below W.heap.size W W':=⟨p3.os,p3.tape,p3.output,p3.size,fun k hk=>p3.keep k hk (fun ⟨r,hr,_⟩=>hr rfl)⟩
  have hlen:ds.length=fn.params.toList.length:=by
    have:∀ {ts:List TypeId} {vs:List Value} {ds:List (DataW H)} {ps:List MemPlace},DataW.TrodAll enc C.prog W 0 (fun _=>true) true ts vs ds ps→ds.length=ts.length:=by
      intro ts
      induction ts with
      | nil=>intro vs ds ps h; cases vs <;> cases ds <;> first | rfl | exact h.elim
      | cons t ts ih =>
        intro vs ds ps h
        cases vs with
        | nil=>cases ds <;> exact h.elim
        | cons v vs=>cases ds with
          | nil=>exact h.elim
          | cons d ds=>obtain ⟨_,_,_,h2,_⟩:=h; simpa using ih h2
    exact this hA
  refine ⟨_,rfl,?_⟩
  have hsp:=hs ds hlen
  have hlt:∀ x∈p,x.block < W.heap.size:=fun x hx=>hW'.lt x (by simpa using hx)
  have hold:∀ x∈p,(fun b=>decide (b < W.heap.size)) x.block=true:=fun x hx=>by simpa using hlt x hx
  have hargs:∀ sp:Nat→Bool,(∀ x∈p,sp x.block=true)→DataW.TrodAll enc C.prog W' 0 sp true fn.params.toList args.toList ds p:=by
    intro sp hsp2
    exact (trodAll_carried (hA.respare KR hz hts' hsp2) (fun x hx=>hb.same (hlt x hx)))
  have hbool:∀ (b:Nat) (sp:Nat→Bool) (hd:Bool),DataW.TrodAll enc C.prog W' b sp hd [tb] [.bool true] [.lit (.bool true)] []:=by
    intro b sp hd
    refine ⟨[],[],⟨1,?_⟩,rfl,rfl⟩
    rw [DataW.trod_step]
    unfold DataW.trodStep
    simp [htb,Value.cells]
  have hrs:∀ (b:Nat) (sp:Nat→Bool) (hd:Bool),DataW.TrodAll enc C.prog W' b sp hd fn.resultTypes.toList ((Value.bool true).resultList fn.resultTypes.size) (s.fn H (ds++[])).results []:=by
    intro b sp hd
    rw [List.append_nil,hsp,hres]
    exact hbool b sp hd
  have hvs:∀ sp:Nat→Bool,DataW.TrodVars enc C.prog W' sp s.vars (s.fn H (ds++[])).vars []:=by
    intro sp
    rw [List.append_nil,hsp,hvars]
    exact rfl
  have hag:∀ sp:Nat→Bool,(∀ x∈p,sp x.block=true)→DataW.TrodAll enc C.prog W' 0 sp true fn.params.toList args.toList (s.fn H (ds++[])).args p:=by
    intro sp h
    rw [List.append_nil,hsp]
    exact hargs sp h
  refine ⟨ds,[],p++[],[],p,[],hW',hrs _ _ _,hag _ hold,hvs _,World.keptBut_mono (fun x hx=>⟨hx,.inr (.inl (by simpa using hx))⟩) (hb.frame (· ∈ p++[])),fun _=>?_⟩
  refine ⟨?_,_,_,([]++p)++[],⟨[]++p,[],trodAll_append (hag _ (fun _ _=>rfl)) (hrs _ _ _),hvs _,rfl,?_,?_⟩,?_⟩
  · intro j t r hj hr
    rw [hres] at hj hr
    cases j with
    | zero =>
      cases hj
      cases hr
      exact okWide_bool_mk htb true
    | succ j=>simp at hj
  · intro b off hp
    have hin:MemPlace.cell b off∈p++[]:=by simpa using hp
    rw [hb.frozen (hlt _ (by simpa using hin))]
    exact hfz b off hin
  · intro ha
    have:=hnd ha
    simpa using this
  · intro x hx _
    simpa using hx

theorem law_lifted {C:Checked} {os:Os} {f:FuncId} {fn:Func} {s:ChangeSpec} {apart fresh handsOn again:Bool} {tb:TypeId}
    (own:ownKnob C.prog.godebug=none) (started:os.Started) (noInit:C.prog.inits.idxOf? f=none) (hfn:C.prog.funcs[f]? = some fn)
    (witness:∃ (w:World) (tape:Tape) (i:Input),w.os=os ∧ (w.forCall tape i).Shaped C.prog∧i.vars=[]∧Input.okWide C.prog (w.forCall tape i) .any w.heap.size f i ∧
      s.pre6 enc C.prog fn [] apart (w.forCall tape i).memory i.args ∧ ({}:Assume).holds C.prog (lone (Frame.enter C.prog f i.args .normal) [] (w.forCall tape i)))
    (hmix:C.prog.follows .mixedOrders=true) (hl:laidOutB C.prog=true) (hm:mapsRowed C.prog=true)
    (hsl : ((List.range C.prog.types.size).all fun t=>match C.prog.underlying t with | some (.slice e)=>decide (0 < C.prog.cellsOf e) | _=>true)=true)
    (hts:fn.params.toList.all (fun t=>decide (t < C.prog.types.size))=true) (hres:fn.resultTypes = #[tb]) (htb:C.prog.underlying tb=some .bool)
    (hvars:s.vars=[]) (hs:∀ ds:List (DataW H),ds.length=fn.params.toList.length→s.fn H ds={ results:=[.lit (.bool true)],args:=ds })
    (law:∀ (ds:List (DataW H)) (l:List D),ArgsAre C.prog fn.params.toList ds l→∃ n' h',callFn (LX (cFk K C.prog)) 0 [] l (cFk K C.prog f) = .ok (.bool true) n' h') :
    ReturnsInHanded {} C os f .any (s.pre6 enc C.prog fn [] apart) (s.post enc C.prog fn apart fresh handsOn again):=by
  refine returnsInHanded_of_change (C:=C) own started noInit hfn witness ?_
  intro W base args ds gs before hval hW hcnd _
  exact law_contract hmix hl hm hsl hts hres htb hvars hs hval hW (law ds)

end
end Go.Proofs.Ytpbpmpabndgeeaa
