/- A region that leaves its order open: run in the order of the text, it tells what every order comes to. First part: over data alone. No condition. -/
import Derived.Test.YtpbpmpabndgeeaaA22
import Derived.OrdersIn

/- An operation sees no more than what it reads,and changes no more than what it touches. No condition. -/
set_option linter.unusedSimpArgs false
set_option linter.unusedVariables false
namespace Go.Proofs.Ytpbpmpabndgeeaa
open Go

def Still (F:Hps→Rd):Prop:=∀ h h' d n1 h1,F h = .ok d n1 h1→h1=h∧F h' = .ok d n1 h'
theorem Still.ok (d:D) (n:Nat):Still fun h => .ok d n h:=by
  intro h h' d1 n1 h1 e
  cases e
  exact ⟨rfl,rfl⟩
theorem Still.bad:Still fun _ => .bad:=by
  intro h h' d n1 h1 e
  cases e
theorem Still.okD (n:Nat) (x:D):Still fun h=>Ytpbpmpabndgeeaa.okD n h x:=by
  intro h h' d n1 h1 e
  obtain ⟨rfl,rfl,rfl,h2⟩:=okD_inv e
  exact ⟨rfl,by cases x <;> first | rfl | exact absurd rfl h2⟩
theorem Still.ifR {F:Hps→Rd} (b:Bool) (hF:Still F):Still fun h=>Ytpbpmpabndgeeaa.ifR b (F h):=by
  intro h h' d n1 h1 e
  cases b with
  | true=>exact hF h h' d n1 h1 e
  | false=>cases e
theorem Still.natR {F:Hps→Nat→Rd} (x:D) (hF:∀ m,Still fun h=>F h m):Still fun h=>Ytpbpmpabndgeeaa.natR (F h) x:=by
  cases x with
  | int k i=>cases i with
    | ofNat m=>exact hF m
    | negSucc m=>exact Still.bad
  | _=>exact Still.bad
theorem Still.optN {F:Hps→Nat→Rd} (e:Tr) (x:Option Opd) (m:Nat) (hF:∀ m,Still fun h=>F h m):Still fun h=>Ytpbpmpabndgeeaa.optN e x m (F h):=by
  cases x with
  | none=>exact hF m
  | some x=>exact Still.natR _ hF

theorem ev_eq {e e':Tr} {x:Opd} (h:∀ p,p∈rdO x→get p e=get p e'):ev e x=ev e' x:=by
  cases x with
  | s p=>exact h p (by simp [rdO])
  | k d=>rfl
theorem evs_cons (e:Tr) (x:Opd) (t:List Opd):evs e (x::t)=ev e x::evs e t:=rfl
theorem evs_same {e e':Tr}:∀ {l:List Opd},(∀ p,p∈rdOs l→get p e=get p e')→evs e l=evs e' l
  | [],_=>rfl
  | x::t,h=>by
    rw [evs_cons,evs_cons,ev_eq (fun p hp=>h p (List.mem_append_left _ hp)),evs_same (fun p hp=>h p (List.mem_append_right _ hp))]
theorem fillP_same {e e':Tr}:∀ {l:List (Nat×Nat×Opd)} (z:Option (List D)),(∀ p,p∈rdPs l→get p e=get p e')→fillP e l z=fillP e' l z
  | [],_,_=>rfl
  | x::t,z,h=>by
    show fillP e t (fld2 x.2.1 x.1 z (cellsX (ev e x.2.2)))=fillP e' t (fld2 x.2.1 x.1 z (cellsX (ev e' x.2.2)))
    rw [ev_eq (fun p hp=>h p (List.mem_append_left _ hp))]
    exact fillP_same _ (fun p hp=>h p (List.mem_append_right _ hp))
theorem optN_same {e e':Tr} {x:Option Opd} {m:Nat} {f:Nat→Rd} (h:∀ p,p∈rdM x→get p e=get p e'):optN e x m f=optN e' x m f:=by
  cases x with
  | none=>rfl
  | some x=>show natR f (ev e x)=natR f (ev e' x); rw [ev_eq h]

def Fr (T:List Nat) (h h':Hps) (r r':Rd):Prop:=∀ d n1 h1,r = .ok d n1 h1→∃ h1',r' = .ok d n1 h1' ∧ (∀ q,q∈T→getO h1' q=getO h1 q)∧∀ q,q ∉ T→getO h1 q=getO h q∧getO h1' q=getO h' q
theorem Fr.still {T:List Nat} {h h':Hps} {F:Hps→Rd} (hF:Still F) (hh:∀ q,q∈T→getO h q=getO h' q):Fr T h h' (F h) (F h'):=by
  intro d n1 h1 e
  obtain ⟨rfl,h2⟩:=hF h h' d n1 h1 e
  exact ⟨h',h2,fun q hq => (hh q hq).symm,fun q _=>⟨rfl,rfl⟩⟩
theorem Fr.bad {T:List Nat} {h h':Hps} {r:Rd}:Fr T h h' .bad r:=fun d n1 h1 e=>by cases e
theorem Fr.cons {T:List Nat} {h h':Hps} {d:D} {n m:Nat} {x:Ob} (hm:m∈T) (hh:∀ q,q∈T→getO h q=getO h' q):Fr T h h' (.ok d n ((m,x)::h)) (.ok d n ((m,x)::h')):=by
  intro d1 n1 h1 e
  cases e
  refine ⟨_,rfl,fun q hq=>?_,fun q hq=>?_⟩
  · rw [getO_cons,getO_cons,hh q hq]
  · have:m≠q:=fun e=>hq (e ▸ hm)
    rw [getO_cons,getO_cons,if_neg this,if_neg this]
    exact ⟨rfl,rfl⟩
theorem Fr.set {T:List Nat} {h h':Hps} {d:D} {n r:Nat} {x:Ob} (hr:r∈T) (hh:∀ q,q∈T→getO h q=getO h' q) (hp:getO h r ≠ .none):Fr T h h' (.ok d n (setO h r x)) (.ok d n (setO h' r x)):=by
  intro d1 n1 h1 e
  cases e
  have hp':getO h' r ≠ .none := (hh r hr) ▸ hp
  refine ⟨_,rfl,fun q hq=>?_,fun q hq=>?_⟩
  · rw [getO_setO _ _ _ _ hp,getO_setO _ _ _ _ hp',hh q hq]
  · have:q≠r:=fun e=>hq (e ▸ hr)
    rw [getO_setO _ _ _ _ hp,getO_setO _ _ _ _ hp',if_neg this,if_neg this]
    exact ⟨rfl,rfl⟩
theorem Fr.consDel {T:List Nat} {h h':Hps} {d:D} {n m r:Nat} {x:Ob} (hm:m∈T) (hr:r∈T) (hh:∀ q,q∈T→getO h q=getO h' q):Fr T h h' (.ok d n ((m,x)::delO h r)) (.ok d n ((m,x)::delO h' r)):=by
  intro d1 n1 h1 e
  cases e
  refine ⟨_,rfl,fun q hq=>?_,fun q hq=>?_⟩
  · rw [getO_cons,getO_cons,getO_delO,getO_delO,hh q hq]
  · have h1:m≠q:=fun e=>hq (e ▸ hm)
    have h2:q≠r:=fun e=>hq (e ▸ hr)
    rw [getO_cons,getO_cons,if_neg h1,if_neg h1,getO_delO,getO_delO,if_neg h2,if_neg h2]
    exact ⟨rfl,rfl⟩
theorem Fr.ifR {T:List Nat} {h h':Hps} {b:Bool} {r r':Rd} (hr:b=true→Fr T h h' r r'):Fr T h h' (Ytpbpmpabndgeeaa.ifR b r) (Ytpbpmpabndgeeaa.ifR b r'):=by
  cases b with
  | true=>exact hr rfl
  | false=>exact Fr.bad
theorem Fr.brec {T:List Nat} {h h':Hps} {b:Bool} {r r' s s':Rd} (hr:b=false→Fr T h h' r r') (hs:b=true→Fr T h h' s s'):Fr T h h' (Bool.rec (motive:=fun _=>Rd) r s b) (Bool.rec (motive:=fun _=>Rd) r' s' b):=by
  cases b with
  | false=>exact hr rfl
  | true=>exact hs rfl

theorem view_same {k:Nat} {h h':Hps} {x:D} (hh:∀ q,q∈refO x→getO h q=getO h' q):view k h x=view k h' x:=by
  cases x with
  | ms k' r off len full=>show viewR off len (getO h r)=viewR off len (getO h' r); rw [hh r (by simp [refO])]
  | _=>rfl

theorem tas_still {n t:Nat} {ok:Bool} {z:D} (x:D):Still (fun h=>tasD n h t ok z x):=by
  have hN:Still (fun h=>tasN n h ok z):=by cases ok <;> first | exact Still.ok _ _ | exact Still.bad
  have hY:∀ d,Still (fun h=>tasY n h ok d):=by intro d; cases d <;> first | exact Still.ok _ _ | exact Still.bad
  cases x with
  | iface t' d =>
    show Still (fun h=>Bool.rec (motive:=fun _=>Rd) (tasN n h ok z) (tasY n h ok d) (Nat.beq t t'))
    cases Nat.beq t t' <;> first | exact hN | exact hY _
  | nili=>exact hN
  | _=>exact Still.bad
theorem opD_frame {e e':Tr} {n:Nat} {h h':Hps} {o:DOp} (he:∀ p,p∈rdOp o→get p e=get p e') (hh:∀ q,q∈touch e n o→getO h q=getO h' q):Fr (touch e n o) h h' (opD e n h o) (opD e' n h' o):=by
  have l:∀ {x y:List Po},(∀ p,p∈x++y→get p e=get p e')→∀ p,p∈x→get p e=get p e':=fun h p hp=>h p (List.mem_append_left _ hp)
  have r:∀ {x y:List Po},(∀ p,p∈x++y→get p e=get p e')→∀ p,p∈y→get p e=get p e':=fun h p hp=>h p (List.mem_append_right _ hp)
  have hbox:∀ {k d},n∈touch e n o→Fr (touch e n o) h h' (boxD n h k d) (boxD n h' k d):=by
    intro k d hn
    cases d <;> first | exact Fr.bad | exact Fr.ifR (fun _=>Fr.cons hn hh)
  cases o with
  | mv x=>simp only [opD]; rw [ev_eq he]; exact Fr.still (F:=fun h => .ok _ _ h) (Still.ok _ _) hh
  | pick c a b =>
    simp only [opD]
    rw [ev_eq (l he),ev_eq (l (r he)),ev_eq (r (r he))]
    refine Fr.still (F:=fun h=>pickD n h _ _ _) ?_ hh
    cases ev e' c <;> first | exact Still.ok _ _ | exact Still.bad
  | new k z=>exact hbox (by simp [touch])
  | box k x=>simp only [opD]; rw [ev_eq he]; exact hbox (by simp [touch])
  | build zs ps =>
    simp only [opD]
    rw [fillP_same _ he]
    refine Fr.still (F:=fun h=>buildD n h _) ?_ hh
    cases fillP e' ps (some zs) <;> first | exact Still.ok _ _ | exact Still.bad
  | bsl k es =>
    simp only [opD]
    rw [evs_same he]
    exact Fr.brec (fun _=>Fr.ifR (fun _=>Fr.cons (by simp [touch]) hh)) (fun _=>Fr.still (F:=fun h => .ok _ _ h) (Still.ok _ _) hh)
  | load ag k a =>
    have hx:=ev_eq he
    simp only [touch] at hh
    simp only [opD,touch]
    rw [hx] at hh ⊢
    cases hv:ev e' a with
    | ptr q i j =>
      rw [hv] at hh
      show Fr [q] h h' (loadR ag k i j n h (getO h q)) (loadR ag k i j n h' (getO h' q))
      rw [← hh q (by simp [refO])]
      refine Fr.still (F:=fun h1=>loadR ag k i j n h1 (getO h q)) ?_ hh
      cases getO h q <;> first | exact Still.okD _ _ | exact Still.bad
    | ip y j=>exact Fr.still (F:=fun h=>okD n h _) (Still.okD _ _) (by intro q hq; cases hq)
    | _=>exact Fr.bad
  | store ag k a x =>
    have hx:=ev_eq (l he)
    have hy:=ev_eq (r he)
    simp only [touch] at hh
    simp only [opD,touch]
    rw [hx] at hh ⊢
    rw [hy]
    cases hv:ev e' a with
    | ptr q i j =>
      rw [hv] at hh
      show Fr [q] h h' (storeR ag k q i j (ev e' x) n h (getO h q)) (storeR ag k q i j (ev e' x) n h' (getO h' q))
      rw [← hh q (by simp [refO])]
      cases hg:getO h q with
      | row kk es =>
        show Fr [q] h h' (storeS q kk i es n h (setS ag k j (nth es i) (ev e' x))) (storeS q kk i es n h' (setS ag k j (nth es i) (ev e' x)))
        cases setS ag k j (nth es i) (ev e' x) <;> first | exact Fr.bad | exact Fr.ifR (fun _=>Fr.set (by simp) hh (by rw [hg]; exact fun h=>by cases h))
      | _=>exact Fr.bad
    | _=>exact Fr.bad
  | bin op x y=>simp only [opD]; rw [ev_eq (l he),ev_eq (r he)]; exact Fr.still (F:=fun h=>okD n h _) (Still.okD _ _) hh
  | cmp neg t x y =>
    simp only [opD]
    rw [ev_eq (l he),ev_eq (r he)]
    refine Fr.still (F:=fun h=>obR n h neg _) ?_ hh
    cases eqD t (ev e' x) (ev e' y) <;> first | exact Still.ok _ _ | exact Still.bad
  | not x=>simp only [opD]; rw [ev_eq he]; refine Fr.still (F:=fun h=>notD n h _) ?_ hh; cases ev e' x <;> first | exact Still.ok _ _ | exact Still.bad
  | neg x=>simp only [opD]; rw [ev_eq he]; refine Fr.still (F:=fun h=>negD n h _) ?_ hh; cases ev e' x <;> first | exact Still.ok _ _ | exact Still.bad
  | faddr o x=>simp only [opD]; rw [ev_eq he]; refine Fr.still (F:=fun h=>faddrD n h o _) ?_ hh; cases ev e' x <;> first | exact Still.ok _ _ | exact Still.bad
  | fld ag o k x=>simp only [opD]; rw [ev_eq he]; refine Fr.still (F:=fun h=>fldD n h ag o k _) ?_ hh; cases ev e' x <;> first | exact Still.okD _ _ | exact Still.bad
  | iaddr k x i =>
    simp only [opD]
    rw [ev_eq (l he),ev_eq (r he)]
    refine Fr.still (F:=fun h=>natR (iaddrD n h k _) _) (Still.natR _ (fun m=>?_)) hh
    cases ev e' x <;> first | exact Still.ifR _ (Still.ok _ _) | exact Still.bad
  | sidx x i =>
    simp only [opD]
    rw [ev_eq (l he),ev_eq (r he)]
    refine Fr.still (F:=fun h=>natR (sidxD n h _) _) (Still.natR _ (fun m=>?_)) hh
    cases ev e' x with
    | str s =>
      cases hn:nthN s m with
      | none =>
        have : (fun h=>sidxD n h (.str s) m)=fun _=>Rd.bad:=by funext h; simp only [sidxD,hn]
        rw [this]; exact Still.bad
      | some b =>
        have : (fun h=>sidxD n h (.str s) m)=fun h=>Rd.ok (.int .u8 (.ofNat b)) n h:=by funext h; simp only [sidxD,hn]
        rw [this]; exact Still.ok _ _
    | _=>exact Still.bad
  | cvi k x=>simp only [opD]; rw [ev_eq he]; refine Fr.still (F:=fun h=>cviD n h k _) ?_ hh; cases ev e' x <;> first | exact Still.ok _ _ | exact Still.bad
  | paddr k m x i =>
    simp only [opD]
    rw [ev_eq (l he),ev_eq (r he)]
    refine Fr.still (F:=fun h=>natR (paddrD n h k m _) _) (Still.natR _ (fun j=>?_)) hh
    cases ev e' x <;> first | exact Still.ifR _ (Still.ok _ _) | exact Still.bad
  | mdel t m k =>
    have hx:=ev_eq (l he)
    simp only [touch] at hh
    simp only [opD,touch]
    rw [hx] at hh ⊢
    rw [ev_eq (r he)]
    cases hv:ev e' m with
    | mp q =>
      rw [hv] at hh
      show Fr [q] h h' (mdelR n h t q (ev e' k) (getO h q)) (mdelR n h' t q (ev e' k) (getO h' q))
      rw [← hh q (by simp [refO])]
      cases hg:getO h q with
      | map es =>
        show Fr [q] h h' (mdelF n h q (delK t (ev e' k) es) (findK t (ev e' k) es)) (mdelF n h' q (delK t (ev e' k) es) (findK t (ev e' k) es))
        cases findK t (ev e' k) es <;> first | exact Fr.bad | exact Fr.set (by simp) hh (by rw [hg]; exact fun h=>by cases h)
      | _=>exact Fr.bad
    | _=>exact Fr.bad
  | aidx ag k m x i =>
    simp only [opD]
    rw [ev_eq (l he),ev_eq (r he)]
    refine Fr.still (F:=fun h=>natR (aidxD n h ag k m _) _) (Still.natR _ (fun m=>?_)) hh
    cases ev e' x <;> first | exact Still.ifR _ (Still.okD _ _) | exact Still.bad
  | slice k x lo hi mx =>
    simp only [opD]
    rw [ev_eq (l he)]
    have h2:Still (fun h=>slice2 n h k e' (ev e' x) lo hi):=by
      cases ev e' x <;> first | exact Still.ifR _ (Still.optN _ _ _ (fun _=>Still.optN _ _ _ (fun _=>Still.ifR _ (Still.ok _ _)))) | exact Still.optN _ _ _ (fun _=>Still.optN _ _ _ (fun _=>Still.ifR _ (Still.ok _ _))) | exact Still.bad
    have h3:Still (fun h=>slice3 n h k e' (ev e' x) lo hi mx):=by
      cases ev e' x <;> first | exact Still.ifR _ (Still.optN _ _ _ (fun _=>Still.optN _ _ _ (fun _=>Still.optN _ _ _ (fun _=>Still.ifR _ (Still.ok _ _))))) | exact Still.optN _ _ _ (fun _=>Still.optN _ _ _ (fun _=>Still.optN _ _ _ (fun _=>Still.ifR _ (Still.ok _ _)))) | exact Still.bad
    have e1:∀ {m f},optN e lo m f=optN e' lo m f:=optN_same (l (r he))
    have e2:∀ {m f},optN e hi m f=optN e' hi m f:=optN_same (l (r (r he)))
    have e3:∀ {m f},optN e mx m f=optN e' mx m f:=optN_same (r (r (r he)))
    have hs:sliceD n h k e (ev e' x) lo hi mx=sliceD n h k e' (ev e' x) lo hi mx:=by
      unfold sliceD
      cases mx with
      | none=>simp only [slice2,e1,e2]
      | some m=>cases hi with
        | none=>rfl
        | some u=>simp only [slice3,e1,e2,e3]
    rw [hs]
    cases mx with
    | none=>exact Fr.still h2 hh
    | some m=>cases hi with
      | none=>exact Fr.bad
      | some u=>exact Fr.still h3 hh
  | sslice x lo hi =>
    simp only [opD]
    rw [ev_eq (l he)]
    have e1:∀ {m f},optN e lo m f=optN e' lo m f:=optN_same (l (r he))
    have e2:∀ {m f},optN e hi m f=optN e' hi m f:=optN_same (r (r he))
    have hs:ssliceD n h e (ev e' x) lo hi=ssliceD n h e' (ev e' x) lo hi:=by unfold ssliceD; simp only [e1,e2]
    rw [hs]
    refine Fr.still (F:=fun h=>ssliceD n h e' _ lo hi) ?_ hh
    cases ev e' x <;> first | exact Still.optN _ _ _ (fun _=>Still.optN _ _ _ (fun _=>Still.ifR _ (Still.ok _ _))) | exact Still.bad
  | ext x i=>simp only [opD]; rw [ev_eq he]; refine Fr.still (F:=fun h=>extD n h i _) ?_ hh; cases ev e' x <;> first | exact Still.okD _ _ | exact Still.bad
  | mkfn f a c=>simp only [opD]; rw [evs_same (l he),evs_same (r he)]; exact Fr.still (F:=fun h => .ok _ _ h) (Still.ok _ _) hh
  | mksl k b z x =>
    simp only [opD]
    rw [ev_eq he]
    cases ev e' x with
    | int kk i=>cases i with
      | ofNat m=>exact Fr.ifR (fun _=>Fr.cons (by simp [touch]) hh)
      | negSucc m=>exact Fr.bad
    | _=>exact Fr.bad
  | nilck x=>simp only [opD]; rw [ev_eq he]; refine Fr.still (F:=fun h=>nilckD n h _) ?_ hh; cases ev e' x <;> first | exact Still.ok _ _ | exact Still.bad
  | mkmap=>exact Fr.cons (by simp [touch]) hh
  | mkif t x=>simp only [opD]; rw [ev_eq he]; exact Fr.still (F:=fun h => .ok _ _ h) (Still.ok _ _) hh
  | tas t ok z x =>
    simp only [opD]
    rw [ev_eq he]
    refine Fr.still (F:=fun h=>tasD n h t ok z _) (tas_still _) hh
  | mrng x =>
    have hx:=ev_eq he
    simp only [touch] at hh
    simp only [opD,touch]
    rw [hx] at hh ⊢
    cases hv:ev e' x with
    | mp q =>
      rw [hv] at hh
      show Fr (n::[q]) h h' (mrngR n h q (getO h q)) (mrngR n h' q (getO h' q))
      rw [← hh q (by simp [refO])]
      cases getO h q <;> first | exact Fr.bad | exact Fr.cons (by simp) hh
    | _=>exact Fr.bad
  | inv=>exact Fr.bad
  | look t z ok m i =>
    have hx:=ev_eq (l he)
    have hy:=ev_eq (r he)
    simp only [touch] at hh
    simp only [opD,touch]
    rw [hx] at hh ⊢
    rw [hy]
    have hl:∀ o,Still (fun h=>lookR n h t z ok (ev e' i) o):=by
      intro o
      cases o with
      | map es =>
        show Still (fun h=>lookF n h z ok (findK t (ev e' i) es))
        cases findK t (ev e' i) es <;> first | exact Still.ok _ _ | exact Still.bad
      | _=>exact Still.bad
    cases hv:ev e' m with
    | mp q =>
      rw [hv] at hh
      show Fr [q] h h' (lookR n h t z ok (ev e' i) (getO h q)) (lookR n h' t z ok (ev e' i) (getO h' q))
      rw [← hh q (by simp [refO])]
      exact Fr.still (hl _) hh
    | nilm=>exact Fr.still (hl (.map [])) (by intro q hq; cases hq)
    | _=>exact Fr.bad
  | mupd t m k x =>
    have hx:=ev_eq (l he)
    simp only [touch] at hh
    simp only [opD,touch]
    rw [hx] at hh ⊢
    rw [ev_eq (l (r he)),ev_eq (r (r he))]
    cases hv:ev e' m with
    | mp q =>
      rw [hv] at hh
      show Fr [q] h h' (mupdR n h t q (ev e' k) (ev e' x) (getO h q)) (mupdR n h' t q (ev e' k) (ev e' x) (getO h' q))
      rw [← hh q (by simp [refO])]
      cases hg:getO h q with
      | map es =>
        show Fr [q] h h' (mupdF n h q (putK t (ev e' k) (ev e' x) es) (findK t (ev e' k) es)) (mupdF n h' q (putK t (ev e' k) (ev e' x) es) (findK t (ev e' k) es))
        cases findK t (ev e' k) es <;> first | exact Fr.bad | exact Fr.set (by simp) hh (by rw [hg]; exact fun h=>by cases h)
      | _=>exact Fr.bad
    | _=>exact Fr.bad
  | len t x =>
    have hx:=ev_eq he
    simp only [touch] at hh
    simp only [opD,touch]
    rw [hx] at hh ⊢
    cases t with
    | str=>refine Fr.still (F:=fun h=>lenS n h _) ?_ hh; cases ev e' x <;> first | exact Still.ok _ _ | exact Still.bad
    | slice=>refine Fr.still (F:=fun h=>lenC n h _) ?_ hh; cases ev e' x <;> first | exact Still.ok _ _ | exact Still.bad
    | map =>
      cases hv:ev e' x with
      | mp q =>
        rw [hv] at hh
        show Fr [q] h h' (lenM n h (getO h q)) (lenM n h' (getO h' q))
        rw [← hh q (by simp [refO])]
        refine Fr.still (F:=fun h1=>lenM n h1 (getO h q)) ?_ hh
        cases getO h q <;> first | exact Still.ok _ _ | exact Still.bad
      | nilm=>exact Fr.still (F:=fun h => .ok _ _ h) (Still.ok _ _) (by intro q hq; cases hq)
      | _=>exact Fr.bad
    | _=>exact Fr.bad
  | app k b s x =>
    have hx:=ev_eq (l he)
    have hy:=ev_eq (r he)
    simp only [touch] at hh
    simp only [opD,touch]
    rw [hx,hy] at hh ⊢
    have hv:view k h (ev e' x)=view k h' (ev e' x):=view_same (fun q hq=>hh q (by rw [appN_eq]; simp [hq]))
    rw [← hv]
    cases view k h (ev e' x) with
    | bad=>exact Fr.bad
    | ok k' xs =>
      refine Fr.ifR (fun _=>?_)
      have h1:∀ xs,Fr (n::appN (refO (ev e' s)) (refO (ev e' x))) h h' (appN1 n h k b xs) (appN1 n h' k b xs):=fun xs=>Fr.ifR (fun _=>Fr.cons (by simp) hh)
      cases xs with
      | nil =>
        refine Fr.still (F:=fun h=>appW n h k b (ev e' s) []) ?_ hh
        cases ev e' s <;> first | exact Still.ok _ _ | exact Still.bad
      | cons x0 xt =>
        show Fr _ h h' (appV n h k b (x0::xt) (ev e' s)) (appV n h' k b (x0::xt) (ev e' s))
        cases hs:ev e' s with
        | nils=>rw [hs] at h1; exact h1 _
        | sl k' es sp full=>rw [hs] at h1; exact Fr.ifR (fun _=>h1 _)
        | ms k' q off len full =>
          rw [hs] at h1 hh
          refine Fr.ifR (fun _=>?_)
          have hq:q∈n::appN (refO (.ms k' q off len full)) (refO (ev e' x)):=by rw [appN_eq]; simp [refO]
          rw [← hh q hq]
          cases hg:getO h q with
          | row kk es=>exact Fr.brec (fun _=>Fr.ifR (fun _=>Fr.ifR (fun _=>Fr.consDel (by simp) hq hh))) (fun _=>Fr.ifR (fun _=>h1 _))
          | _=>exact Fr.bad
        | _=>exact Fr.bad
  | apps s x =>
    have hx:=ev_eq (l he)
    have hy:=ev_eq (r he)
    simp only [touch] at hh
    simp only [opD,touch]
    rw [hx] at hh ⊢
    rw [hy]
    have h1:∀ xs,Fr (n::refO (ev e' s)) h h' (appN1 n h 1 1 xs) (appN1 n h' 1 1 xs):=fun xs=>Fr.ifR (fun _=>Fr.cons (by simp) hh)
    cases ev e' x with
    | str t =>
      show Fr _ h h' (appW n h 1 1 (ev e' s) (strL t)) (appW n h' 1 1 (ev e' s) (strL t))
      cases strL t with
      | nil =>
        refine Fr.still (F:=fun h=>appW n h 1 1 (ev e' s) []) ?_ hh
        cases ev e' s <;> first | exact Still.ok _ _ | exact Still.bad
      | cons x0 xt =>
        show Fr _ h h' (appV n h 1 1 (x0::xt) (ev e' s)) (appV n h' 1 1 (x0::xt) (ev e' s))
        cases hs:ev e' s with
        | nils=>rw [hs] at h1; exact h1 _
        | sl k' es sp full=>rw [hs] at h1; exact Fr.ifR (fun _=>h1 _)
        | ms k' q off len full =>
          rw [hs] at h1 hh
          refine Fr.ifR (fun _=>?_)
          have hq:q∈n::refO (.ms k' q off len full):=by simp [refO]
          rw [← hh q hq]
          cases hg:getO h q with
          | row kk es=>exact Fr.brec (fun _=>Fr.ifR (fun _=>Fr.ifR (fun _=>Fr.consDel (by simp) hq hh))) (fun _=>Fr.ifR (fun _=>h1 _))
          | _=>exact Fr.bad
        | _=>exact Fr.bad
    | _=>exact Fr.bad
  | cvb x =>
    simp only [opD]
    rw [ev_eq he]
    have hn:n∈touch e n (.cvb x):=by simp [touch]
    cases ev e' x <;> first | exact Fr.bad | exact Fr.ifR (fun _=>Fr.cons hn hh)
  | cbs x =>
    have hx:=ev_eq he
    simp only [touch] at hh
    simp only [opD,touch]
    rw [hx] at hh ⊢
    rw [view_same (k:=1) hh]
    refine Fr.still (F:=fun h0=>cbsD n h0 (view 1 h' (ev e' x))) ?_ hh
    cases view 1 h' (ev e' x) with
    | bad=>exact Still.bad
    | ok k xs =>
      refine Still.ifR _ ?_
      cases bytesL xs <;> first | exact Still.bad | exact Still.ok _ _
  | cbb x =>
    have hx:=ev_eq he
    simp only [touch] at hh
    simp only [opD,touch]
    rw [hx] at hh ⊢
    cases hxx:ev e' x with
    | ms k q off len full =>
      rw [hxx] at hh
      show Fr _ h h' (cbbR n h (.ms k q off len full) len (getO h q)) (cbbR n h' (.ms k q off len full) len (getO h' q))
      rw [hh q (by simp [refO])]
      refine Fr.still (F:=fun h0=>cbbR n h0 (.ms k q off len full) len (getO h' q)) ?_ hh
      cases getO h' q <;> first | exact Still.bad | exact Still.ifR _ (Still.ok _ _)
    | _=>exact Fr.bad
  | max x y =>
    simp only [opD]
    rw [ev_eq (l he),ev_eq (r he)]
    refine Fr.still (F:=fun h=>maxD n h _ _) ?_ hh
    cases ev e' x <;> first | exact Still.bad | (cases ev e' y <;> first | exact Still.ok _ _ | exact Still.bad)
  | min x y =>
    simp only [opD]
    rw [ev_eq (l he),ev_eq (r he)]
    refine Fr.still (F:=fun h=>minD n h _ _) ?_ hh
    cases ev e' x <;> first | exact Still.bad | (cases ev e' y <;> first | exact Still.ok _ _ | exact Still.bad)
  | call=>exact Fr.bad
  | bad=>exact Fr.bad
end Go.Proofs.Ytpbpmpabndgeeaa

/- A region that leaves its order open: run in the order of the text,it tells what every order comes to. First part: over data alone. No condition. -/
namespace Go.Proofs.Ytpbpmpabndgeeaa
open Go

def dP:DOper→Option Po
  | .op d _ _=>d
def gP:DOper→Option (Po×Bool)
  | .op _ g _=>g
def oP:DOper→DOp
  | .op _ _ o=>o

noncomputable def nxt (call:CallF) (b:Bool) (e:Tr) (n:Nat) (h:Hps) (x:DOper):Bool×D×Hps×List Nat×List Nat :=
  match want e (gP x) with
  | .ok true => (match opP call b e n h (oP x) with
    | .ok d _ h1 => (true,d,h1,touchR e n (oP x) h h1,writR (oP x) (touchR e n (oP x) h h1) h h1)
    | .bad => (true,.junk,h,[],[]))
  | _ => (false,.tup [],h,[],[])
def nm (sd n0 j:Nat):Nat:=n0+j*sd
theorem nm_succ (sd n0 j:Nat):nm sd n0 (j+1)=nm sd n0 j+sd:=by unfold nm; rw [Nat.add_mul,Nat.one_mul,Nat.add_assoc]
noncomputable def trj (sd:Nat) (call:CallF) (bar:List Bool) (L:List DOper) (e0:Tr) (n0:Nat) (h0:Hps):Nat→Tr×Hps
  | 0 => (e0,h0)
  | j+1 => (match L[j]? with
    | some x => (putE (trj sd call bar L e0 n0 h0 j).1 (dP x) (nxt call (bar.getD j false) (trj sd call bar L e0 n0 h0 j).1 (nm sd n0 j) (trj sd call bar L e0 n0 h0 j).2 x).2.1,(nxt call (bar.getD j false) (trj sd call bar L e0 n0 h0 j).1 (nm sd n0 j) (trj sd call bar L e0 n0 h0 j).2 x).2.2.1)
    | none=>trj sd call bar L e0 n0 h0 j)
noncomputable def tw (sd:Nat) (call:CallF) (bar:List Bool) (L:List DOper) (e0:Tr) (n0:Nat) (h0:Hps) (j:Nat):List Nat×List Nat :=
  match L[j]? with
  | some x => (nxt call (bar.getD j false) (trj sd call bar L e0 n0 h0 j).1 (nm sd n0 j) (trj sd call bar L e0 n0 h0 j).2 x).2.2.2
  | none => ([],[])
noncomputable def tT (sd:Nat) (call:CallF) (bar:List Bool) (L:List DOper) (e0:Tr) (n0:Nat) (h0:Hps) (j:Nat):List Nat := (tw sd call bar L e0 n0 h0 j).1
noncomputable def wT (sd:Nat) (call:CallF) (bar:List Bool) (L:List DOper) (e0:Tr) (n0:Nat) (h0:Hps) (j:Nat):List Nat := (tw sd call bar L e0 n0 h0 j).2

theorem disj_eq (a b:List Nat):disj a b=true↔∀ x,x∈a→x ∉ b:=by
  have hm:∀ (r:Nat) (l:List Nat),memN r l=true↔r∈l:=by
    intro r l
    induction l with
    | nil=>exact ⟨fun h => (by cases h),fun h => (by cases h)⟩
    | cons x l ih =>
      show Bool.rec (motive:=fun _=>Bool) (memN r l) true (Nat.beq x r)=true↔_
      cases hb:Nat.beq x r with
      | true=>have:=beq_eq hb; subst this; simp
      | false =>
        have hne:r≠x:=fun e=>by rw [e,Nat.beq_refl] at hb; cases hb
        simp [ih,hne]
  induction a with
  | nil=>exact ⟨fun _ x hx => (by cases hx),fun _=>rfl⟩
  | cons x a ih =>
    show Bool.rec (motive:=fun _=>Bool) (disj a b) false (memN x b)=true↔_
    cases hb:memN x b with
    | true =>
      refine ⟨fun h => (by cases h),fun h=>absurd ((hm x b).1 hb) (h x (by simp))⟩
    | false =>
      have hx:x ∉ b:=fun h=>by rw [(hm x b).2 h] at hb; cases hb
      simp only [ih,List.mem_cons]
      exact ⟨fun h y hy=>hy.elim (fun e=>e ▸ hx) (h y),fun h y hy=>h y (.inr hy)⟩
theorem apart2_eq {a w:List Nat} {b:TW} (h:apart2 a w b=true) : (∀ x,x∈a→x ∉ b.1) ∨ (b.2=true∧∀ x,x∈w→x ∉ b.1):=by
  rcases Bool.or_eq_true_iff.1 (show (disj a b.1 || (b.2 && disj w b.1))=true from h) with h | h
  · exact .inl ((disj_eq _ _).1 h)
  · rw [Bool.and_eq_true,disj_eq] at h; exact .inr h
theorem apartAll_eq (t w:List Nat) (ts:List TW) (un:List Nat):apartAll t w ts un=true↔∀ i,i∈un→apart2 t w (nthT ts i)=true:=by
  induction un with
  | nil=>exact ⟨fun _ i hi => (by cases hi),fun _=>rfl⟩
  | cons x un ih =>
    show Bool.rec (motive:=fun _=>Bool) false (apartAll t w ts un) (apart2 t w (nthT ts x))=true↔_
    cases hb:apart2 t w (nthT ts x) with
    | true=>simp [ih,hb]
    | false=>simp [hb]
theorem changed_mem {h h1:Hps} {T:List Nat} {q:Nat} : (q∈changed h h1 T→q∈T) ∧ (q∈T→q ∉ changed h h1 T→getO h1 q=getO h q):=by
  induction T with
  | nil=>exact ⟨fun h=>h,fun h => (by cases h)⟩
  | cons r T ih =>
    show (q ∈ (Bool.rec (motive:=fun _=>List Nat) (r::changed h h1 T) (changed h h1 T) (sameO (getO h r) (getO h1 r)))→_) ∧ (_→q ∉ (Bool.rec (motive:=fun _=>List Nat) (r::changed h h1 T) (changed h h1 T) (sameO (getO h r) (getO h1 r)))→_)
    cases hs:sameO (getO h r) (getO h1 r) with
    | true =>
      refine ⟨fun hq=>List.mem_cons_of_mem _ (ih.1 hq),fun hq hn=>?_⟩
      rcases List.mem_cons.1 hq with rfl | hq
      · exact (sameO_eq hs).symm
      · exact ih.2 hq hn
    | false =>
      refine ⟨fun hq=>?_,fun hq hn=>?_⟩
      · rcases List.mem_cons.1 hq with rfl | hq
        · exact List.mem_cons_self
        · exact List.mem_cons_of_mem _ (ih.1 hq)
      · rcases List.mem_cons.1 hq with rfl | hq
        · exact absurd List.mem_cons_self hn
        · exact ih.2 hq (fun h=>hn (List.mem_cons_of_mem _ h))
theorem writR_sub {o:DOp} {T:List Nat} {h h1:Hps} {q:Nat} (hq:q∈writR o T h h1):q∈T:=by
  unfold writR at hq
  cases hk:wk o with
  | zero=>rw [hk] at hq; cases hq
  | succ m =>
    rw [hk] at hq
    cases m with
    | zero=>exact hq
    | succ m=>exact changed_mem.1 hq

theorem rdo_writ {o:DOp} {T:List Nat} {h h1:Hps} (hr:rdo o=true):writR o T h h1=[]:=by cases o <;> first | rfl | cases hr

section
variable {sd:Nat} {call:CallF} {bar:List Bool} {L:List DOper} {e0:Tr} {n0:Nat} {h0:Hps}

structure Good (sd:Nat) (call:CallF) (bar:List Bool) (L:List DOper) (un:List (List Nat)) (e0:Tr) (n0:Nat) (h0:Hps) (j:Nat) (x:DOper):Prop where
  env : (trj sd call bar L e0 n0 h0 (j+1)).1=putE (trj sd call bar L e0 n0 h0 j).1 (dP x) (nxt call (bar.getD j false) (trj sd call bar L e0 n0 h0 j).1 (nm sd n0 j) (trj sd call bar L e0 n0 h0 j).2 x).2.1
  heap : (trj sd call bar L e0 n0 h0 (j+1)).2 = (nxt call (bar.getD j false) (trj sd call bar L e0 n0 h0 j).1 (nm sd n0 j) (trj sd call bar L e0 n0 h0 j).2 x).2.2.1
  wnt:want (trj sd call bar L e0 n0 h0 j).1 (gP x) = .ok (nxt call (bar.getD j false) (trj sd call bar L e0 n0 h0 j).1 (nm sd n0 j) (trj sd call bar L e0 n0 h0 j).2 x).1
  no : (nxt call (bar.getD j false) (trj sd call bar L e0 n0 h0 j).1 (nm sd n0 j) (trj sd call bar L e0 n0 h0 j).2 x).1=false → (nxt call (bar.getD j false) (trj sd call bar L e0 n0 h0 j).1 (nm sd n0 j) (trj sd call bar L e0 n0 h0 j).2 x).2.1 = .tup [] ∧ (trj sd call bar L e0 n0 h0 (j+1)).2 = (trj sd call bar L e0 n0 h0 j).2∧tT sd call bar L e0 n0 h0 j=[]∧wT sd call bar L e0 n0 h0 j=[]
  yes : (nxt call (bar.getD j false) (trj sd call bar L e0 n0 h0 j).1 (nm sd n0 j) (trj sd call bar L e0 n0 h0 j).2 x).1=true→tT sd call bar L e0 n0 h0 j=touchR (trj sd call bar L e0 n0 h0 j).1 (nm sd n0 j) (oP x) (trj sd call bar L e0 n0 h0 j).2 (trj sd call bar L e0 n0 h0 (j+1)).2 ∧
    (∃ n1,n1 < nm sd n0 j+sd∧opP call (bar.getD j false) (trj sd call bar L e0 n0 h0 j).1 (nm sd n0 j) (trj sd call bar L e0 n0 h0 j).2 (oP x) = .ok (nxt call (bar.getD j false) (trj sd call bar L e0 n0 h0 j).1 (nm sd n0 j) (trj sd call bar L e0 n0 h0 j).2 x).2.1 n1 (trj sd call bar L e0 n0 h0 (j+1)).2) ∧
    (∀ i,i < j→j - 1 - i∈un.getD j []→∀ r,(r∈wT sd call bar L e0 n0 h0 j→r ∉ tT sd call bar L e0 n0 h0 i) ∧ (r∈wT sd call bar L e0 n0 h0 i→r ∉ tT sd call bar L e0 n0 h0 j)) ∧
    wT sd call bar L e0 n0 h0 j=writR (oP x) (tT sd call bar L e0 n0 h0 j) (trj sd call bar L e0 n0 h0 j).2 (trj sd call bar L e0 n0 h0 (j+1)).2

theorem wT_sub {j r:Nat} (hr:r∈wT sd call bar L e0 n0 h0 j):r∈tT sd call bar L e0 n0 h0 j:=by
  unfold wT tT tw at *
  cases hL:L[j]? with
  | none=>rw [hL] at hr; cases hr
  | some x =>
    rw [hL] at hr
    simp only at hr ⊢
    unfold nxt at hr ⊢
    cases hw:want (trj sd call bar L e0 n0 h0 j).1 (gP x) with
    | bad=>rw [hw] at hr; cases hr
    | ok t =>
      cases t with
      | false=>rw [hw] at hr; cases hr
      | true =>
        rw [hw] at hr
        simp only at hr ⊢
        cases ho:opP call (bar.getD j false) (trj sd call bar L e0 n0 h0 j).1 (nm sd n0 j) (trj sd call bar L e0 n0 h0 j).2 (oP x) with
        | bad=>rw [ho] at hr; cases hr
        | ok d n1 h1=>rw [ho] at hr; exact writR_sub hr

theorem draw_good {un:List (List Nat)} {x:Ex} {e':Tr} {n':Nat} {h':Hps}:∀ (l:List DOper) (s:Nat) (ut:List (List Nat)) (bt:List Bool) (ts:List TW),L.drop s=l→s+l.length=L.length→un.drop s=ut→bar.drop s=bt → (∀ i,i < s → (nthT ts (s - 1 - i)).1=tT sd call bar L e0 n0 h0 i ∧ ((nthT ts (s - 1 - i)).2=true→wT sd call bar L e0 n0 h0 i=[])) →
    runDraw sd call l ut bt ts (trj sd call bar L e0 n0 h0 s).1 (nm sd n0 s) (trj sd call bar L e0 n0 h0 s).2 = .ok x e' n' h' →
    x = .normal∧e' = (trj sd call bar L e0 n0 h0 L.length).1∧n'=nm sd n0 L.length∧h' = (trj sd call bar L e0 n0 h0 L.length).2∧∀ j y,s≤j→L[j]? = some y→Good sd call bar L un e0 n0 h0 j y:=by
  intro l
  induction l with
  | nil =>
    intro s ut bt ts hl hs _ _ _ hd
    have hs:s=L.length:=by simpa using hs
    subst hs
    cases hd
    exact ⟨rfl,rfl,rfl,rfl,fun j y hj hy=>by have := (List.getElem?_eq_some_iff.1 hy).1; omega⟩
  | cons y l ih =>
    intro s ut bt ts hl hs hut hbt hts hd
    cases ut with
    | nil=>cases hd
    | cons u ut =>
    cases bt with
    | nil=>cases hd
    | cons b bt =>
    have hy:L[s]? = some y:=by
      have : (L.drop s)[0]? = some y:=by rw [hl]; rfl
      simpa using this
    have hus:un.getD s []=u:=by
      have : (un.drop s)[0]? = some u:=by rw [hut]; rfl
      simp only [List.getElem?_drop,Nat.add_zero] at this
      simp [List.getD_eq_getElem?_getD,this]
    have hbs:bar.getD s false=b:=by
      have : (bar.drop s)[0]? = some b:=by rw [hbt]; rfl
      simp only [List.getElem?_drop,Nat.add_zero] at this
      simp [List.getD_eq_getElem?_getD,this]
    have hbt':bar.drop (s+1)=bt:=by rw [← List.tail_drop,hbt]; rfl
    have hl':L.drop (s+1)=l:=by rw [← List.tail_drop,hl]; rfl
    have hut':un.drop (s+1)=ut:=by rw [← List.tail_drop,hut]; rfl
    have hs':s+1+l.length=L.length:=by rw [← hs,List.length_cons]; omega
    obtain ⟨dst,g,o⟩:=y
    have henv : (trj sd call bar L e0 n0 h0 (s+1)).1=putE (trj sd call bar L e0 n0 h0 s).1 dst (nxt call (bar.getD s false) (trj sd call bar L e0 n0 h0 s).1 (nm sd n0 s) (trj sd call bar L e0 n0 h0 s).2 (.op dst g o)).2.1:=by
      show (match L[s]? with | some x=>_ | none=>_:Tr×Hps).1=_
      rw [hy]; rfl
    have hheap : (trj sd call bar L e0 n0 h0 (s+1)).2 = (nxt call (bar.getD s false) (trj sd call bar L e0 n0 h0 s).1 (nm sd n0 s) (trj sd call bar L e0 n0 h0 s).2 (.op dst g o)).2.2.1:=by
      show (match L[s]? with | some x=>_ | none=>_:Tr×Hps).2=_
      rw [hy]
    have htT:tw sd call bar L e0 n0 h0 s = (nxt call (bar.getD s false) (trj sd call bar L e0 n0 h0 s).1 (nm sd n0 s) (trj sd call bar L e0 n0 h0 s).2 (.op dst g o)).2.2.2:=by
      unfold tw; rw [hy]
    have hd1:stepQ sd call (runDraw sd call l ut bt) b ts (trj sd call bar L e0 n0 h0 s).1 (nm sd n0 s) (trj sd call bar L e0 n0 h0 s).2 u dst o (want (trj sd call bar L e0 n0 h0 s).1 g) = .ok x e' n' h':=hd
    have hts':∀ T:TW,(T.1=tT sd call bar L e0 n0 h0 s ∧ (T.2=true→wT sd call bar L e0 n0 h0 s=[]))→∀ i,i < s+1 → (nthT (T::ts) (s+1 - 1 - i)).1=tT sd call bar L e0 n0 h0 i ∧ ((nthT (T::ts) (s+1 - 1 - i)).2=true→wT sd call bar L e0 n0 h0 i=[]):=by
      intro T hT i hi
      by_cases e:i=s
      · subst e
        rw [show i+1 - 1 - i=0 by omega]
        exact hT
      · rw [show s+1 - 1 - i = (s - 1 - i)+1 by omega]
        exact hts i (by omega)
    have fin:Good sd call bar L un e0 n0 h0 s (.op dst g o) → (x = .normal∧e' = (trj sd call bar L e0 n0 h0 L.length).1∧n'=nm sd n0 L.length∧h' = (trj sd call bar L e0 n0 h0 L.length).2∧∀ j y,s+1≤j→L[j]? = some y→Good sd call bar L un e0 n0 h0 j y) →
        x = .normal∧e' = (trj sd call bar L e0 n0 h0 L.length).1∧n'=nm sd n0 L.length∧h' = (trj sd call bar L e0 n0 h0 L.length).2∧∀ j y,s≤j→L[j]? = some y→Good sd call bar L un e0 n0 h0 j y:=by
      rintro hg ⟨h1,h2,h3,h4,h5⟩
      refine ⟨h1,h2,h3,h4,fun j y hj hy2=>?_⟩
      by_cases e:j=s
      · subst e
        rw [hy] at hy2
        cases hy2
        exact hg
      · exact h5 j y (by omega) hy2
    cases hw:want (trj sd call bar L e0 n0 h0 s).1 g with
    | bad=>rw [hw] at hd1; cases hd1
    | ok t =>
      rw [hw] at hd1
      cases t with
      | false =>
        have hn:nxt call (bar.getD s false) (trj sd call bar L e0 n0 h0 s).1 (nm sd n0 s) (trj sd call bar L e0 n0 h0 s).2 (.op dst g o) = (false,.tup [],(trj sd call bar L e0 n0 h0 s).2,[],[]):=by
          unfold nxt; simp only [gP,hw]
        rw [hn] at henv hheap htT
        replace hd1:runDraw sd call l ut bt (([],false)::ts) (putE (trj sd call bar L e0 n0 h0 s).1 dst (.tup [])) (nm sd n0 s+sd) (trj sd call bar L e0 n0 h0 s).2 = .ok x e' n' h':=hd1
        refine fin ⟨by rw [hn]; exact henv,by rw [hn]; exact hheap,by rw [hn]; exact hw,fun _=>⟨by rw [hn],hheap,congrArg (·.1) htT,congrArg (·.2) htT⟩,fun e=>by rw [hn] at e; cases e⟩ (ih (s+1) ut bt (([],false)::ts) hl' hs' hut' hbt' (hts' ([],false) ⟨(congrArg (·.1) htT).symm,fun h=>by cases h⟩) ?_)
        rw [henv,hheap,nm_succ]
        exact hd1
      | true =>
        replace hd1:drawK sd (runDraw sd call l ut bt) ts (trj sd call bar L e0 n0 h0 s).1 (nm sd n0 s) (trj sd call bar L e0 n0 h0 s).2 u dst o (opP call b (trj sd call bar L e0 n0 h0 s).1 (nm sd n0 s) (trj sd call bar L e0 n0 h0 s).2 o) = .ok x e' n' h':=hd1
        cases hop:opP call b (trj sd call bar L e0 n0 h0 s).1 (nm sd n0 s) (trj sd call bar L e0 n0 h0 s).2 o with
        | bad=>rw [hop] at hd1; cases hd1
        | ok d n1 h1 =>
          rw [hop] at hd1
          replace hd1:Bool.rec (motive:=fun _=>Re) .bad (runDraw sd call l ut bt ((touchR (trj sd call bar L e0 n0 h0 s).1 (nm sd n0 s) o (trj sd call bar L e0 n0 h0 s).2 h1,rdo o)::ts) (putE (trj sd call bar L e0 n0 h0 s).1 dst d) (nm sd n0 s+sd) h1)
            (Bool.and (Nat.blt n1 (nm sd n0 s+sd)) (apartAll (touchR (trj sd call bar L e0 n0 h0 s).1 (nm sd n0 s) o (trj sd call bar L e0 n0 h0 s).2 h1) (writR o (touchR (trj sd call bar L e0 n0 h0 s).1 (nm sd n0 s) o (trj sd call bar L e0 n0 h0 s).2 h1) (trj sd call bar L e0 n0 h0 s).2 h1) ts u)) = .ok x e' n' h':=hd1
          cases hap:Bool.and (Nat.blt n1 (nm sd n0 s+sd)) (apartAll (touchR (trj sd call bar L e0 n0 h0 s).1 (nm sd n0 s) o (trj sd call bar L e0 n0 h0 s).2 h1) (writR o (touchR (trj sd call bar L e0 n0 h0 s).1 (nm sd n0 s) o (trj sd call bar L e0 n0 h0 s).2 h1) (trj sd call bar L e0 n0 h0 s).2 h1) ts u) with
          | false=>rw [hap] at hd1; cases hd1
          | true =>
            rw [hap] at hd1
            obtain ⟨hlt,hap⟩:=and2 hap
            rw [blt_iff] at hlt
            have hlt:=of_decide_eq_true hlt
            replace hd1:runDraw sd call l ut bt ((touchR (trj sd call bar L e0 n0 h0 s).1 (nm sd n0 s) o (trj sd call bar L e0 n0 h0 s).2 h1,rdo o)::ts) (putE (trj sd call bar L e0 n0 h0 s).1 dst d) (nm sd n0 s+sd) h1 = .ok x e' n' h':=hd1
            have hn:nxt call (bar.getD s false) (trj sd call bar L e0 n0 h0 s).1 (nm sd n0 s) (trj sd call bar L e0 n0 h0 s).2 (.op dst g o) = (true,d,h1,touchR (trj sd call bar L e0 n0 h0 s).1 (nm sd n0 s) o (trj sd call bar L e0 n0 h0 s).2 h1,writR o (touchR (trj sd call bar L e0 n0 h0 s).1 (nm sd n0 s) o (trj sd call bar L e0 n0 h0 s).2 h1) (trj sd call bar L e0 n0 h0 s).2 h1):=by
              unfold nxt; simp only [gP,oP,hw,hbs,hop]
            rw [hn] at henv hheap htT
            have ht1:tT sd call bar L e0 n0 h0 s=touchR (trj sd call bar L e0 n0 h0 s).1 (nm sd n0 s) o (trj sd call bar L e0 n0 h0 s).2 h1:=congrArg (·.1) htT
            have ht2:wT sd call bar L e0 n0 h0 s=writR o (touchR (trj sd call bar L e0 n0 h0 s).1 (nm sd n0 s) o (trj sd call bar L e0 n0 h0 s).2 h1) (trj sd call bar L e0 n0 h0 s).2 h1:=congrArg (·.2) htT
            refine fin ⟨by rw [hn]; exact henv,by rw [hn]; exact hheap,by rw [hn]; exact hw,(fun e=>by rw [hn] at e; cases e),fun _=>⟨by rw [ht1,hheap]; rfl,⟨n1,hlt,by rw [hn,hheap,hbs]; exact hop⟩,fun i hi hu r=>?_,by rw [ht2,ht1,hheap]; rfl⟩⟩ (ih (s+1) ut bt _ hl' hs' hut' hbt' (hts' (_,rdo o) ⟨ht1.symm,fun h=>by rw [ht2]; exact rdo_writ h⟩) ?_)
            · rw [hus] at hu
              have := (apartAll_eq _ _ _ _).1 hap _ hu
              obtain ⟨k1,k2⟩:=hts i hi
              rcases apart2_eq this with a1 | ⟨a1,a2⟩
              · rw [k1,← ht1] at a1
                exact ⟨fun h1 h2=>a1 r (wT_sub h1) h2,fun h1 h2=>a1 r h2 (wT_sub h1)⟩
              · rw [k1,← ht2] at a2
                rw [k2 a1]
                exact ⟨a2 r,fun h=>by cases h⟩
            · rw [henv,hheap,nm_succ]
              exact hd1
end
end Go.Proofs.Ytpbpmpabndgeeaa
