/- Going over the constructors. No condition but sizes. -/
import Derived.Test.YtpbpmpabndgeeaaEH
set_option linter.unusedSimpArgs false
set_option linter.unusedVariables false
namespace Go.Proofs.Ytpbpmpabndgeeaa
open Go
open Nat (reduceAdd reduceLT reduceLeDiff reduceEqDiff reduceMul)

theorem memN_mem {r:Nat}:∀ {S:List Nat},r∈S→memN r S=true
  | a::S,h=>by
    rw [memN_cons]
    rcases List.mem_cons.1 h with rfl | h
    · rw [decide_eq_true rfl]; rfl
    · rw [memN_mem h,Bool.or_true]
theorem allN_of {p:Nat→Bool}:∀ {S:List Nat},(∀ r,r∈S→p r=true)→allN p S=true
  | [],_=>rfl
  | a::S,h=>by
    show Bool.and (p a) (allN p S)=true
    rw [h a (by simp),allN_of (fun r hr=>h r (by simp [hr]))]; rfl
theorem mem_subH {h:Hps} {p:Nat×Ob}:∀ {S:List Nat},p∈subH S h→p.1∈S∧p.2=getO h p.1
  | a::S,hp=>by
    have hp:p ∈ (a,getO h a)::subH S h:=hp
    rcases List.mem_cons.1 hp with rfl | hp
    · exact ⟨by simp,rfl⟩
    · exact ⟨by simp [(mem_subH hp).1],(mem_subH hp).2⟩
theorem mem_remH {p:Nat×Ob}:∀ {S:List Nat} {h:Hps},p∈remH S h→p∈h
  | [],_,hp=>hp
  | a::S,h,hp=>mem_remH (S:=S) (mem_delO (show p∈delO (remH S h) a from hp)).1
theorem getO_mem {r:Nat}:∀ {h:Hps},getO h r ≠ .none → (r,getO h r)∈h
  | [],e=>absurd rfl e
  | (q,o)::t,e=>by
    by_cases hq:q=r
    · subst hq; rw [getO_hd]; exact List.mem_cons_self
    · rw [getO_tl hq] at e ⊢; exact List.mem_cons_of_mem _ (getO_mem e)
theorem sub_read {call:CallF} {S:List Nat} {m n1:Nat} {h:Hps} {f d:D} {args:List D} (hle:∀ r,r∈S→r≤m) (hin:∀ r,r∈S→inO (fun x=>memN x S) (getO h r)=true)
    (hf:inD (fun r=>memN r S) 20 f=true) (ha:allL (inD (fun r=>memN r S) 20) args=true) (hd:inD (ofR S (m+1)) 20 d=true)
    (hio:∀ r,r∈S→inO (ofR S (m+1)) (getO h r)=true) (hcall:call (m+1) (subH S h) f args = .ok d n1 (subH S h)) :
    ∃ g1,subC call S m h f args = .ok d n1 g1 ∧ (∀ q,getO g1 q=getO h q) ∧ (∀ k,GoodAt k h → (∀ r,r∈S→r < k)→GoodAt k g1):=by
  refine ⟨appH (subH S h) (remH S h),?_,fun q=>?_,fun k hk hS p hp=>?_⟩
  · show pureC S m h f args (call (m+1) (subH S h) f args)=_
    rw [hcall]
    have f1:allN (fun r=>Nat.ble r m) S=true:=allN_of fun r hr=>by rw [ble_iff]; exact decide_eq_true (hle r hr)
    have f4:inH (fun r=>memN r S) (subH S h)=true:=inH_all fun x hx=>by
      obtain ⟨h2,h3⟩:=mem_subH hx
      exact ⟨memN_mem h2,by rw [h3]; exact hin _ h2⟩
    have f5:inH (ofR S (m+1)) (subH S h)=true:=inH_all fun x hx=>by
      obtain ⟨h2,h3⟩:=mem_subH hx
      refine ⟨?_,by rw [h3]; exact hio _ h2⟩
      show Bool.or (Nat.ble (m+1) x.1) (memN x.1 S)=true
      rw [memN_mem h2]; cases Nat.ble (m+1) x.1 <;> rfl
    show ifR (Bool.and (allN (fun r=>Nat.ble r m) S) (Bool.and (inD (fun r=>memN r S) 20 f) (Bool.and (allL (inD (fun r=>memN r S) 20) args) (Bool.and (inH (fun r=>memN r S) (subH S h)) (Bool.and (inD (ofR S (m+1)) 20 d) (inH (ofR S (m+1)) (subH S h))))))) (.ok _ _ _)=_
    rw [f1,hf,ha,f4,hd,f5]
    rfl
  · by_cases hq:q∈S
    · rw [(getO_app _ _ q).1 (by rw [subH_keys]; exact hq),getO_subH.1 hq]
    · rw [((getO_app _ _ q).2 (by rw [subH_keys]; exact hq)).1,getO_remH.2 hq]
  · rw [appH_eq] at hp
    rcases List.mem_append.1 hp with h1 | h1
    · obtain ⟨h2,h3⟩:=mem_subH h1
      obtain ⟨r,o⟩:=p
      simp only at h2 h3
      subst h3
      have hr:=hS r h2
      by_cases e:getO h r = .none
      · rw [e]; exact ⟨hr,rfl⟩
      · exact hk _ (getO_mem e)
    · exact hk _ (mem_remH h1)
theorem rdF {F:Fa} {r:Nat}:rdOb (Ob.row 21 [.agg [.int .i64 3,.str (F).nm,.int .i64 0,.int .i64 (F).typ.form,.int .i64 (F).typ.n,.bool (F).typ.hid,.str (F).typ.name,slD 2 encL (F).typ.levels,slD 6 encT (F).typ.kids,.int .i64 0,.int .i64 0,.bool false,.str [],.nils,.nils,.int .i64 ((F).P:Nat),.ms 7 (r) 0 (F).cs.length false,slD 6 encT (F).Ps,slD 6 encT (F).Is,.int .i64 (F).so.n,slD 2 encV (F).so.vs]])=[r]:=by
  show rfL (rd 20) [.agg [.int .i64 3,.str (F).nm,.int .i64 0,.int .i64 (F).typ.form,.int .i64 (F).typ.n,.bool (F).typ.hid,.str (F).typ.name,slD 2 encL (F).typ.levels,slD 6 encT (F).typ.kids,.int .i64 0,.int .i64 0,.bool false,.str [],.nils,.nils,.int .i64 ((F).P:Nat),.ms 7 (r) 0 (F).cs.length false,slD 6 encT F.Ps,slD 6 encT F.Is,.int .i64 F.so.n,slD 2 encV F.so.vs]]=[r]
  simp only [rfL_cons,rfL_nil,rd_agg,rd_int,rd_str,rd_bool,rd_slD,rd_nils,rd_ms,appN_nil,appN_cons]
theorem rdC {l:List (List Nat×Tm)}:rdOb (.row 7 (l.map encC))=[]:=by
  show rfL (rd 20) (l.map encC)=[]
  induction l with
  | nil=>rfl
  | cons c t ih =>
    rw [List.map_cons,rfL_cons,ih]
    unfold encC
    simp only [rfL_cons,rfL_nil,rd_agg,rd_int,rd_str,rd_bool,rd_slD,appN_nil]
theorem rdI {l:List Nat}:rdOb (.row 1 (l.map encI))=[]:=by
  show rfL (rd 20) (l.map encI)=[]
  induction l with
  | nil=>rfl
  | cons c t ih=>rw [List.map_cons,rfL_cons,ih]; rfl
theorem rdMk {V W:Sl Tm} {d:D}:rdOb (.row 3 [.agg [slD 6 encT V,d,slD 6 encT W]])=rd 19 d:=by
  show rfL (rd 20) [.agg [slD 6 encT V,d,slD 6 encT W]]=_
  simp only [rfL_cons,rfL_nil,rd_agg,rd_slD,appN_nil]
  show appN (appN (rd 19 d) []) []=_
  rw [appN_eq,appN_eq]; simp
theorem reach_go {h:Hps} {f a:Nat} {t seen:List Nat} (hm:memN a seen=false):reach h (f+1) (a::t) seen=reach h f (appN (rdOb (getO h a)) t) (a::seen):=by rw [reach_cons,hm]; rfl
theorem Fat.ne {F:Fa} {f r n:Nat} {h:Hps} (X:Fat F f r n h):r≠f:=fun e=>by
  have a:=X.box; have b:=X.row
  rw [e,a] at b
  injection b with e1 _
  cases e1
theorem reachF {F:Fa} {f r n:Nat} {h:Hps} (X:Fat F f r n h) {x:Int} {d c:D} (hd:rd 20 d=[]) (hc:rd 20 c=[]):reachC h [.ptr f 0 0,.int .i64 x,d] c=[r,f]:=by
  show reach h 4096 (appN (appN [f] (appN [] (appN (rd 20 d) []))) (rd 20 c)) []=_
  rw [hd,hc]
  show reach h (4093+1+1+1) [f] []=_
  rw [reach_go rfl,X.box,rdF]
  show reach h (4093+1+1) [r] [f]=_
  rw [reach_go (by rw [memN_cons,decide_eq_false (fun e=>X.ne e.symm)]; rfl),X.row,rdC]
  rfl
theorem inF {F:Fa} {r:Nat} {p:Nat→Bool} (hp:p r=true):inO p (Ob.row 21 [.agg [.int .i64 3,.str (F).nm,.int .i64 0,.int .i64 (F).typ.form,.int .i64 (F).typ.n,.bool (F).typ.hid,.str (F).typ.name,slD 2 encL (F).typ.levels,slD 6 encT (F).typ.kids,.int .i64 0,.int .i64 0,.bool false,.str [],.nils,.nils,.int .i64 ((F).P:Nat),.ms 7 (r) 0 (F).cs.length false,slD 6 encT (F).Ps,slD 6 encT (F).Is,.int .i64 (F).so.n,slD 2 encV (F).so.vs]])=true:=by
  show allL (inD p 20) [.agg [.int .i64 3,.str (F).nm,.int .i64 0,.int .i64 (F).typ.form,.int .i64 (F).typ.n,.bool (F).typ.hid,.str (F).typ.name,slD 2 encL (F).typ.levels,slD 6 encT (F).typ.kids,.int .i64 0,.int .i64 0,.bool false,.str [],.nils,.nils,.int .i64 ((F).P:Nat),.ms 7 (r) 0 (F).cs.length false,slD 6 encT F.Ps,slD 6 encT F.Is,.int .i64 F.so.n,slD 2 encV F.so.vs]]=true
  have e:inD p 19 (.ms 7 r 0 F.cs.length false)=p r:=rfl
  rw [allL_eq,List.all_cons,List.all_nil,in_agg]
  simp [in_int,in_str,in_bool,in_slD,in_nils,e,hp]
theorem inC {l:List (List Nat×Tm)} {p:Nat→Bool}:inO p (.row 7 (l.map encC))=true:=by
  show allL (inD p 20) (l.map encC)=true
  rw [allL_eq,List.all_eq_true]
  intro d hd
  obtain ⟨c,_,rfl⟩:=List.mem_map.1 hd
  unfold encC
  rw [in_agg]
  simp [in_int,in_str,in_bool,in_slD]
theorem inI {l:List Nat} {p:Nat→Bool}:inO p (.row 1 (l.map encI))=true:=by
  show allL (inD p 20) (l.map encI)=true
  rw [allL_eq,List.all_eq_true]
  intro d hd
  obtain ⟨c,_,rfl⟩:=List.mem_map.1 hd
  rfl
theorem inMk {V W:Sl Tm} {d:D} {p:Nat→Bool} (hd:inD p 19 d=true):inO p (.row 3 [.agg [slD 6 encT V,d,slD 6 encT W]])=true:=by
  show allL (inD p 20) [.agg [slD 6 encT V,d,slD 6 encT W]]=true
  rw [allL_eq,List.all_cons,List.all_nil,in_agg]
  simp [in_slD,hd]
theorem ofR_in {R:List Nat} {s x:Nat} (hx:x∈R):ofR R s x=true:=by
  show Bool.or (Nat.ble s x) (memN x R)=true
  rw [memN_mem hx]; cases Nat.ble s x <;> rfl
theorem Fat.good {F:Fa} {f r n:Nat} {h:Hps} (X:Fat F f r n h) (hg:Gd n h):Gd n (subH [r,f] h):=fun k hk p hp=>by
  obtain ⟨h2,h3⟩:=mem_subH hp
  obtain ⟨q,o⟩:=p
  simp only at h2 h3
  subst h3
  have hq:q∈[r,f]:=h2
  have:getO h q ≠ .none:=by
    rcases List.mem_cons.1 hq with rfl | hq
    · rw [X.row]; simp
    · rw [List.mem_singleton.1 hq,X.box]; simp
  exact hg k hk _ (getO_mem this)
theorem Fat.sub {F:Fa} {f r n:Nat} {h:Hps} (X:Fat F f r n h):Fat F f r n (subH [r,f] h):=⟨X.fl,X.rl,by rw [getO_subH.1 (by simp)]; exact X.box,by rw [getO_subH.1 (by simp)]; exact X.row⟩
theorem reachF1 {F:Fa} {f r n:Nat} {h:Hps} (X:Fat F f r n h) {c:D} (hc:rd 20 c=[]):reachC h [.ptr f 0 0] c=[r,f]:=by
  show reach h 4096 (appN (appN [f] []) (rd 20 c)) []=_
  rw [hc]
  show reach h (4093+1+1+1) [f] []=_
  rw [reach_go rfl,X.box,rdF]
  show reach h (4093+1+1) [r] [f]=_
  rw [reach_go (by rw [memN_cons,decide_eq_false (fun e=>X.ne e.symm)]; rfl),X.row,rdC]
  rfl
theorem Fat.up {F:Fa} {f r n m:Nat} {h:Hps} (X:Fat F f r n h) (hm:n≤m):Fat F f r m h:=⟨by have:=X.fl; omega,by have:=X.rl; omega,X.box,X.row⟩
theorem sub_fam {call:CallF} {F:Fa} {f r n m k:Nat} {h:Hps} {args:List D} {t:Tm} (hg:Gd n h) (X:Fat F f r n h) (hm:n≤m) (hr:reachC h args (.fn k [] [])=[r,f]) (k3:allL (inD (fun x=>memN x [r,f]) 20) args=true)
    (hcall:call (m+1) (subH [r,f] h) (.fn k [] []) args = .ok (encT t) (m+1) (subH [r,f] h)) :
    ∃ g1,subC call (reachC h args (.fn k [] [])) m h (.fn k [] []) args = .ok (encT t) (m+1) g1 ∧ (∀ q,getO g1 q=getO h q)∧Gd n g1:=by
  have hfl:=X.fl
  have hrl:=X.rl
  rw [hr]
  have c2:∀ {q:Nat},q∈[r,f]→q=r∨q=f:=fun {q} hq=>by simpa using hq
  have k1:∀ q,q∈[r,f]→q≤m:=fun q hq => (c2 hq).elim (fun e=>by omega) (fun e=>by omega)
  have k2:∀ (p:Nat→Bool),p r=true→∀ q,q∈[r,f]→inO p (getO h q)=true:=fun p hp q hq => (c2 hq).elim (fun e=>by rw [e,X.row]; exact inC) (fun e=>by rw [e,X.box]; exact inF hp)
  obtain ⟨g1,e1,e2,e3⟩:=sub_read (call:=call) (S:=[r,f]) (m:=m) (h:=h) (f := .fn k [] []) (d:=encT t) (args:=args) (n1:=m+1) k1 (k2 _ (memN_mem (by simp))) rfl k3 inT (k2 _ (ofR_in (by simp))) hcall
  exact ⟨g1,e1,e2,fun k hk=>e3 k (hg k hk) (fun q hq => (c2 hq).elim (fun e=>by omega) (fun e=>by omega))⟩
theorem sub_self {F:Fa} {f r n m:Nat} {h:Hps} (hg:Gd n h) (X:Fat F f r n h) (hm:n≤m) (hP:F.Ps.el.length≤1000) (params:Int) (hp:0≤params∧params≤1000000) (s:Sl Tm) (hs:s.el.length≤1000000) :
    ∃ g1,subC (callX (cF Try.prog) (LX (cF Try.prog))) (reachC h [.ptr f 0 0,.int .i64 params,slD 6 encT s] (.fn 32 [] [])) m h (.fn 32 [] []) [.ptr f 0 0,.int .i64 params,slD 6 encT s] = .ok (encT (selfT F.nm F.Ps.el.length params s.el)) (m+1) g1 ∧ (∀ q,getO g1 q=getO h q)∧Gd n g1 :=
  sub_fam hg X hm (reachF X rd_slD rfl) (by rw [allL_eq,List.all_cons,List.all_cons,List.all_cons,List.all_nil,in_slD,in_ptr,in_int,memN_mem (by simp)]; rfl) (by
    rw [callX_fn]
    exact pSelf (fun k hk=>X.good hg k (by omega)) (X.sub.up (by omega)) hP params hp s hs)
theorem sub_motive {F:Fa} {f r n m:Nat} {h:Hps} (hg:Gd n h) (X:Fat F f r n h) (hm:n≤m) (hP:F.Ps.el.length≤1000) (hI:F.Is.el.length≤1000) :
    ∃ g1,subC (callX (cF Try.prog) (LX (cF Try.prog))) (reachC h [.ptr f 0 0] (.fn 39 [] [])) m h (.fn 39 [] []) [.ptr f 0 0] = .ok (encT (motT F.nm F.Ps.el.length F.Is.el)) (m+1) g1 ∧ (∀ q,getO g1 q=getO h q)∧Gd n g1 :=
  sub_fam hg X hm (reachF1 X rfl) (by rw [allL_eq,List.all_cons,List.all_nil,in_ptr,memN_mem (by simp)]; rfl) (by
    rw [callX_fn]
    exact pMotive (fun k hk=>X.good hg k (by omega)) (X.sub.up (by omega)) hP hI)
theorem Mat.row {V W:Sl Tm} {rs:List Nat} {q n:Nat} {h:Hps} (M:Mat V rs (slD 6 encT W) q n h) (hg:GoodAt n h):∃ dR,getO h q = .row 3 [.agg [slD 6 encT V,dR,slD 6 encT W]] ∧ ((rs=[]∧dR = .nils)∨∃ r2,dR = .ms 1 r2 0 rs.length false∧rs≠[]∧r2 < n∧q < r2∧getO h r2 = .row 1 (rs.map encI)):=by
  obtain ⟨dR,b1,b2⟩:=M.box
  refine ⟨dR,b1,?_⟩
  rcases b2 with h1 | ⟨r2,h1,h2,h3,h4⟩
  · exact .inl h1
  · exact .inr ⟨r2,h3,h1,getO_low hg (by rw [h4]; exact fun h=>by cases h),by omega,h4⟩
theorem sub_mth {call:CallF} {F:Fa} {f r q n m k:Nat} {V W:Sl Tm} {rs:List Nat} {h:Hps} {x:Int} {t:Tm} (hg:Gd n h) (X:Fat F f r n h) (M:Mat V rs (slD 6 encT W) q n h) (hm:n≤m)
    (hcall:∀ g,Gd n g→Fat F f r n g→Mat V rs (slD 6 encT W) q n g→call (m+1) g (.fn k [] []) [.ptr f 0 0,.int .i64 x,.ptr q 0 0] = .ok (encT t) (m+1) g) :
    ∃ g1 S,subC call (reachC h [.ptr f 0 0,.int .i64 x,.ptr q 0 0] (.fn k [] [])) m h (.fn k [] []) [.ptr f 0 0,.int .i64 x,.ptr q 0 0] = .ok (encT t) (m+1) g1 ∧ (∀ y,getO g1 y=getO h y)∧Gd n g1 ∧
      reachC h [.ptr f 0 0,.int .i64 x,.ptr q 0 0] (.fn k [] [])=S∧∀ y,y∈S→y=f∨y=r ∨ (q≤y∧y < n∧∃ l,getO h y = .row 1 (List.map encI l)∨y=q):=by
  have hfl:=X.fl
  have hrl:=X.rl
  have hql:=M.ql
  obtain ⟨dR,b1,b2⟩:=M.row (hg n (Nat.le_refl _))
  have n1:q≠f:=fun e=>by have a:=X.box; rw [← e,b1] at a; injection a with e1 _; cases e1
  have n2:q≠r:=fun e=>by have a:=X.row; rw [← e,b1] at a; injection a with e1 _; cases e1
  have e0:reachC h [.ptr f 0 0,.int .i64 x,.ptr q 0 0] (.fn k [] [])=reach h 4093 (rd 19 dR) [q,r,f]:=by
    show reach h (4093+1+1+1) [f,q] []=_
    rw [reach_go rfl,X.box,rdF]
    show reach h (4093+1+1) [r,q] [f]=_
    rw [reach_go (by rw [memN_cons,decide_eq_false (fun e=>X.ne e.symm)]; rfl),X.row,rdC]
    show reach h (4093+1) [q] [r,f]=_
    rw [reach_go (by rw [memN_cons,memN_cons,decide_eq_false (fun e=>n2 e.symm),decide_eq_false (fun e=>n1 e.symm)]; rfl),b1,rdMk,appN_eq,List.append_nil]
  have fin:∀ S:List Nat,reach h 4093 (rd 19 dR) [q,r,f]=S → (∀ y,y∈S↔y=f∨y=r∨y=q ∨ (∃ j,dR = .ms 1 y 0 j false) ) → (∀ p:Nat→Bool,(∀ y,y∈S→p y=true)→inD p 19 dR=true) →
      ∃ g1 S,subC call (reachC h [.ptr f 0 0,.int .i64 x,.ptr q 0 0] (.fn k [] [])) m h (.fn k [] []) [.ptr f 0 0,.int .i64 x,.ptr q 0 0] = .ok (encT t) (m+1) g1 ∧ (∀ y,getO g1 y=getO h y)∧Gd n g1 ∧
      reachC h [.ptr f 0 0,.int .i64 x,.ptr q 0 0] (.fn k [] [])=S∧∀ y,y∈S→y=f∨y=r ∨ (q≤y∧y < n∧∃ l,getO h y = .row 1 (List.map encI l)∨y=q):=by
    intro S eS hS hI
    have row2:∀ y j,dR = .ms 1 y 0 j false→q≤y∧y < n∧getO h y = .row 1 (rs.map encI):=fun y j e=>by
      rcases b2 with ⟨_,e2⟩ | ⟨r2,e2,_,h2,h3,h4⟩
      · rw [e2] at e; cases e
      · rw [e2] at e; injection e with _ e _ _ _; subst e; exact ⟨by omega,h2,h4⟩
    have sf := (hS f).2 (.inl rfl)
    have sr := (hS r).2 (.inr (.inl rfl))
    have sq := (hS q).2 (.inr (.inr (.inl rfl)))
    have lt:∀ y,y∈S→y < n:=fun y hy=>by
      rcases (hS y).1 hy with e | e | e | ⟨j,e⟩
      · omega
      · omega
      · omega
      · exact (row2 y j e).2.1
    have k2:∀ p:Nat→Bool,(∀ y,y∈S→p y=true)→∀ y,y∈S→inO p (getO h y)=true:=fun p hp y hy=>by
      rcases (hS y).1 hy with e | e | e | ⟨j,e⟩
      · rw [e,X.box]; exact inF (hp _ sr)
      · rw [e,X.row]; exact inC
      · rw [e,b1]; exact inMk (hI p hp)
      · rw [(row2 y j e).2.2]; exact inI
    have sub:∀ y,y∈S→getO (subH S h) y=getO h y:=fun y hy=>getO_subH.1 hy
    have gS:Gd n (subH S h):=fun k hk p hp=>by
      obtain ⟨h2,h3⟩:=mem_subH hp
      obtain ⟨y,o⟩:=p
      simp only at h2 h3
      subst h3
      have:getO h y ≠ .none:=by
        rcases (hS y).1 h2 with e | e | e | ⟨j,e⟩
        · rw [e,X.box]; simp
        · rw [e,X.row]; simp
        · rw [e,b1]; simp
        · rw [(row2 y j e).2.2]; simp
      exact hg k hk _ (getO_mem this)
    have XS:Fat F f r n (subH S h):=⟨hfl,hrl,by rw [sub _ sf]; exact X.box,by rw [sub _ sr]; exact X.row⟩
    have MS:Mat V rs (slD 6 encT W) q n (subH S h):=by
      obtain ⟨dR',m1,m2⟩:=M.box
      have ed:dR'=dR:=by rw [b1] at m1; injection m1 with _ e; injection e with e _; injection e with e; injection e with _ e; injection e with e _; exact e.symm
      subst ed
      exact ⟨hql,dR',by rw [sub _ sq]; exact m1,m2.keep fun y e=>sub _ ((hS y).2 (.inr (.inr (.inr ⟨_,e⟩))))⟩
    obtain ⟨g1,e1,e2,e3⟩:=sub_read (call:=call) (S:=S) (m:=m) (h:=h) (f := .fn k [] []) (d:=encT t) (args:=[.ptr f 0 0,.int .i64 x,.ptr q 0 0]) (n1:=m+1) (fun y hy=>by have:=lt y hy; omega) (k2 _ (fun y hy=>memN_mem hy)) rfl
      (by rw [allL_eq,List.all_cons,List.all_cons,List.all_cons,List.all_nil,in_ptr,in_int,in_ptr,memN_mem sf,memN_mem sq]; rfl) inT (k2 _ (fun y hy=>ofR_in hy)) (hcall _ gS XS MS)
    refine ⟨g1,S,by rw [e0,eS]; exact e1,e2,fun k hk=>e3 k (hg k hk) (fun y hy=>by have:=lt y hy; omega),by rw [e0,eS],fun y hy=>?_⟩
    rcases (hS y).1 hy with e | e | e | ⟨j,e⟩
    · exact .inl e
    · exact .inr (.inl e)
    · exact .inr (.inr ⟨by omega,by omega,[],.inr e⟩)
    · exact .inr (.inr ⟨(row2 y j e).1,(row2 y j e).2.1,rs,.inl (row2 y j e).2.2⟩)
  rcases b2 with ⟨_,rfl⟩ | ⟨r2,rfl,_,h2,h3,h4⟩
  · refine fin [q,r,f] rfl (fun y=>?_) (fun p hp=>rfl)
    rw [show y∈[q,r,f]↔y=q∨y=r∨y=f by simp]
    constructor
    · rintro (h | h | h)
      · exact .inr (.inr (.inl h))
      · exact .inr (.inl h)
      · exact .inl h
    · rintro (h | h | h | ⟨j,h⟩)
      · exact .inr (.inr h)
      · exact .inr (.inl h)
      · exact .inl h
      · cases h
  · have n3:r2≠f:=fun e=>by have a:=X.box; rw [← e,h4] at a; injection a with e1 _; cases e1
    have n4:r2≠r:=fun e=>by have a:=X.row; rw [← e,h4] at a; injection a with e1 _; cases e1
    have e5:reach h 4093 (rd 19 (.ms 1 r2 0 rs.length false)) [q,r,f]=[r2,q,r,f]:=by
      show reach h (4092+1) [r2] [q,r,f]=_
      rw [reach_go (by rw [memN_cons,memN_cons,memN_cons,decide_eq_false (by omega),decide_eq_false (fun e=>n4 e.symm),decide_eq_false (fun e=>n3 e.symm)]; rfl),h4,rdI]
      rfl
    refine fin [r2,q,r,f] e5 (fun y=>?_) (fun p hp=>hp r2 (by simp))
    rw [show y∈[r2,q,r,f]↔y=r2∨y=q∨y=r∨y=f by simp]
    constructor
    · rintro (h | h | h | h)
      · exact .inr (.inr (.inr ⟨rs.length,by rw [h]⟩))
      · exact .inr (.inr (.inl h))
      · exact .inr (.inl h)
      · exact .inl h
    · rintro (h | h | h | ⟨j,h⟩)
      · exact .inr (.inr (.inr h))
      · exact .inr (.inr (.inl h))
      · exact .inr (.inl h)
      · injection h with _ h _ _ _; exact .inl h.symm
end Go.Proofs.Ytpbpmpabndgeeaa
set_option linter.unusedSimpArgs false
set_option linter.unusedVariables false
namespace Go.Proofs.Ytpbpmpabndgeeaa
open Go
open Nat (reduceAdd reduceLT reduceLeDiff reduceEqDiff reduceMul)

theorem pMakers {f n:Nat} {h:Hps} (hg:Gd n h) (hf:f < n):callFn (LX (cF Try.prog)) n h [.ptr f 0 0] (cF Try.prog 30) = .ok (.fn 60 [] [.ptr n 0 0]) (n+4) ((n,.row 1 [.ptr f 0 0])::h):=by
  have hgn:=hg n (Nat.le_refl _)
  rw [f30_eq]; unfold c30; rw [callFn_eq (by rfl)]
  simp (disch:=first|assumption|omega|(simp (disch:=first|assumption|omega) only [sB,reduceAdd,reduceLT,reduceLeDiff,reduceEqDiff,reduceMul,↓reduceIte];done)|fail) only [sA,↓reduceIte,reduceLT,reduceEqDiff,reduceAdd,reduceLeDiff]
  have H0:Hp n h (n+1) ((n,.row 1 [.ptr f 0 0])::h) := (Hp.start hg).cons (Nat.le_refl _) (by omega) (fun k hk=>lowO_one (ble_f (by omega)))
  have e1:frz ((n,.row 1 [.ptr f 0 0])::h) n 58 (.ptr f 0 0) = .ptr f 0 0:=by
    show Bool.rec (motive:=fun _=>D) (frzP (frz ((n,.row 1 [.ptr f 0 0])::h) n 57) 0 0 (getO ((n,.row 1 [.ptr f 0 0])::h) f)) (.ptr f 0 0) (Nat.blt f n)=_
    rw [blt_iff,decide_eq_true hf]
  have hfr:frz ((n,.row 1 [.ptr f 0 0])::h) n 60 (.fn 60 [] [.ptr n 0 0]) = .fn 60 [] [.junk]:=by
    show D.fn 60 [] [Bool.rec (motive:=fun _=>D) (frzP (frz ((n,.row 1 [.ptr f 0 0])::h) n 58) 0 0 (getO ((n,.row 1 [.ptr f 0 0])::h) n)) (.ptr n 0 0) (Nat.blt n n)]=_
    rw [blt_iff,decide_eq_false (Nat.lt_irrefl _),getO_hd]
    show D.fn 60 [] [frzI 1 0 (frz ((n,.row 1 [.ptr f 0 0])::h) n 58 (.ptr f 0 0))]=_
    rw [e1]; rfl
  show Bool.rec (motive:=fun _=>Rd) (finishF n (n+4) ((n,.row 1 [.ptr f 0 0])::h) _ (frz ((n,.row 1 [.ptr f 0 0])::h) n 60 (.fn 60 [] [.ptr n 0 0]))) (.ok _ (n+4) ((n,.row 1 [.ptr f 0 0])::h)) (leak n ((n,.row 1 [.ptr f 0 0])::h))=_
  rw [H0.leak,hfr]
  rfl
theorem finish_leak {n m:Nat} {h:Hps} {d:D} (hl:leak n h=true):finishD n m h d = .ok d m h:=by
  unfold finishD
  rw [hl,Bool.or_true]
theorem leak_at {n s:Nat} {h:Hps} {o:Ob} (hs:s < n) (e:getO h s=o) (ho:obR1 n o=true):leak n h=true:=by
  cases hl:leak n h with
  | true=>rfl
  | false =>
    have hne:getO h s ≠ .none:=by intro e2; rw [e] at e2; subst e2; cases ho
    have:=leak_iff.1 hl _ (getO_mem hne) hs
    rw [e] at this
    unfold lowO at this
    rw [ho] at this
    cases this
set_option maxHeartbeats 4000000 in
theorem pMakers1 {F:Fa} {f r A L bm m0:Nat} {ty t:Tm} {l:List Tm} {W:Sl Tm} {R:Nat→Bool} {g0:Hps} {T:Nat→Nat→Hps→Prop}
    (hM:∀ k,k < F.cs.length→∃ nm,Mkr F f r k A nm ty l t (slD 6 encT W) R) (hC:F.cs.length≤1000)
    (hT:∀ k m g,T k m g→m0≤m∧Gd m g∧Fat F f r m g∧getO g bm = .row 1 [.ptr f 0 0])
    (hmono:∀ k m g m' g',T k m g→Hp m g m' g'→T k m' g')
    (hround:∀ k,k < F.cs.length→∀ m g q,T k m g→m0≤q→Mat ((Sl.app l).cut F.Ps.el.length l.length) (recs R A) (slD 6 encT W) q m g→∃ m' g',callX (cF Try.prog) (LX (cF Try.prog)) m g (.yld L) [.int .i64 (k:Nat),.ptr q 0 0] = .ok (.bool true) m' g'∧m≤m'∧T (k+1) m' g')
    (hend:∀ m g,T F.cs.length m g→leak m0 g=true) (h0:T 0 m0 g0) :
    ∃ m' g',callFn (LX (cF Try.prog)) m0 g0 [.yld L,.ptr bm 0 0] (cF Try.prog 60) = .ok (.tup []) m' g'∧T F.cs.length m' g':=by
  obtain ⟨_,hg,X,ym⟩:=hT 0 m0 g0 h0
  have z0:=X.box
  rw [f60_eq]; unfold c60; rw [callFn_eq (by rfl)]
  simp (disch:=first|assumption|omega|(simp (disch:=first|assumption|omega) only [sB,reduceAdd,reduceLT,reduceLeDiff,reduceEqDiff,reduceMul,↓reduceIte];done)|fail) only [sA,↓reduceIte,reduceLT,reduceEqDiff,reduceAdd,reduceLeDiff,z0,ym]
  generalize hr0:LX (cF Try.prog) (.loop l60_0) _ _ _=r0
  obtain ⟨x,e2,n2,h2,rfl,rfl,T2⟩:=loop_up hr0 F.cs.length
    (fun i e n' h'=>T i n' h'∧get (po 0) e = .yld L∧get (po 1) e = .ptr bm 0 0∧get (po 11) e = .int .i64 (F.cs.length:Nat)∧get (po 12) e = .int .i64 (i:Nat))
    (fun x e n' h'=>x = .exit 0∧T F.cs.length n' h')
    (by
      rintro e n' h' ⟨TT,g0,g1,g11,g12⟩
      have hg' := (hT _ _ _ TT).2.1
      unfold l60_0
      simp (disch:=first|assumption|omega|(simp (disch:=first|assumption|omega) only [sB,reduceAdd,reduceLT,reduceLeDiff,reduceEqDiff,reduceMul,↓reduceIte];done)|fail) only [sA,↓reduceIte,reduceLT,reduceEqDiff,reduceAdd,reduceLeDiff,g11,g12]
      exact ⟨_,_,_,_,rfl,by simp,rfl,hmono _ _ _ _ _ TT ((Hp.start hg').mono (by omega))⟩)
    (by
      rintro i e n' h' hi ⟨TT,g0,g1,g11,g12⟩
      obtain ⟨hl,hg',X',ym'⟩:=hT _ _ _ TT
      obtain ⟨nm,M⟩:=hM i hi
      have TT1:=hmono _ _ _ _ _ TT ((Hp.start hg').mono (show n'≤n'+6 by omega))
      obtain ⟨n1,h1,q,dR,c1,H1,q1,q2,q3,q4⟩:=pMaker M (hT _ _ _ TT1).2.1 (hT _ _ _ TT1).2.2.1
      have TT2:=hmono _ _ _ _ _ TT1 (H1.mono (show n1≤n1+12 by omega))
      obtain ⟨m',g',c2,m1,TT3⟩:=hround i hi _ _ q TT2 (by omega) ⟨by omega,dR,q3,q4⟩
      unfold l60_0
      simp (disch:=first|assumption|omega|(simp (disch:=first|assumption|omega) only [sB,reduceAdd,reduceLT,reduceLeDiff,reduceEqDiff,reduceMul,↓reduceIte];done)|fail) only [sA,↓reduceIte,reduceLT,reduceEqDiff,reduceAdd,reduceLeDiff,g0,g1,g11,g12,ym',c1,c2]
      exact ⟨_,_,_,_,rfl,.inl ⟨rfl,hmono _ _ _ _ _ TT3 ((Hp.start (hT _ _ _ TT3).2.1).mono (by omega)),by simp +decide only [sG,g0],by simp +decide only [sG,g1],by simp +decide only [sG,g11],by simp +decide only [sG]⟩⟩)
    ⟨hmono _ _ _ _ _ h0 ((Hp.start hg).mono (by omega)),by simp +decide only [sG],by simp +decide only [sG],by simp +decide only [sG],by simp (disch:=first|assumption|omega|(simp (disch:=first|assumption|omega) only [sB,reduceAdd,reduceLT,reduceLeDiff,reduceEqDiff,reduceMul,↓reduceIte];done)|fail) only [sA,↓reduceIte,reduceLT,reduceEqDiff,reduceAdd,reduceLeDiff]⟩
  simp (disch:=first|assumption|omega|(simp (disch:=first|assumption|omega) only [sB,reduceAdd,reduceLT,reduceLeDiff,reduceEqDiff,reduceMul,↓reduceIte];done)|fail) only [sA,↓reduceIte,reduceLT,reduceEqDiff,reduceAdd,reduceLeDiff,finish_leak (hend _ _ T2)]
  exact ⟨_,_,rfl,T2⟩
end Go.Proofs.Ytpbpmpabndgeeaa
