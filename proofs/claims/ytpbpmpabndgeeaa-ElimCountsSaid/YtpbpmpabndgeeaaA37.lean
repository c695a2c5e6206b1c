/- Regions that leave their order open, step by step; tuples, tests. No condition. -/
import Derived.Test.YtpbpmpabndgeeaaA36
import Derived.Test.YtpbpmpabndgeeaaA26
set_option linter.unusedSimpArgs false
set_option linter.unusedVariables false
namespace Go.Proofs.Ytpbpmpabndgeeaa
open Go

section
variable {F:Nat→DFn} {call:CallF} {b0:Bool} {e:Tr} {n:Nat} {h:Hps}
theorem opP_mv {x:Opd}:opP call b0 e n h (.mv x) = .ok (ev e x) n h:=eqOf rfl
theorem opP_pick {c a b:Opd}:opP call b0 e n h (.pick c a b)=pickD n h (ev e a) (ev e b) (ev e c):=eqOf rfl
theorem opP_new {k:Nat} {z:D}:opP call b0 e n h (.new k z)=boxD n h k z:=eqOf rfl
theorem opP_box {k:Nat} {x:Opd}:opP call b0 e n h (.box k x)=boxD n h k (ev e x):=eqOf rfl
theorem opP_build {zs:List D} {ps:List (Nat×Nat×Opd)}:opP call b0 e n h (.build zs ps)=buildD n h (fillP e ps (some zs)):=eqOf rfl
theorem opP_bsl {k:Nat} {es:List Opd}:opP call b0 e n h (.bsl k es)=bslD n h k (evs e es):=eqOf rfl
theorem opP_load {ag:Bool} {k:Nat} {a:Opd}:opP call b0 e n h (.load ag k a)=loadD ag k n h (ev e a):=eqOf rfl
theorem opP_store {ag:Bool} {k:Nat} {a x:Opd}:opP call b0 e n h (.store ag k a x)=storeD ag k (ev e x) n h (ev e a):=eqOf rfl
theorem opP_bin {op:BinOp} {x y:Opd}:opP call b0 e n h (.bin op x y)=okD n h (binD op (ev e x) (ev e y)):=eqOf rfl
theorem opP_cmp {b:Bool} {t:EK} {x y:Opd}:opP call b0 e n h (.cmp b t x y)=obR n h b (eqD t (ev e x) (ev e y)):=eqOf rfl
theorem opP_not {x:Opd}:opP call b0 e n h (.not x)=notD n h (ev e x):=eqOf rfl
theorem opP_neg {x:Opd}:opP call b0 e n h (.neg x)=negD n h (ev e x):=eqOf rfl
theorem opP_faddr {off:Nat} {x:Opd}:opP call b0 e n h (.faddr off x)=faddrD n h off (ev e x):=eqOf rfl
theorem opP_fld {ag:Bool} {off k:Nat} {x:Opd}:opP call b0 e n h (.fld ag off k x)=fldD n h ag off k (ev e x):=eqOf rfl
theorem opP_iaddr {k:Nat} {x i:Opd}:opP call b0 e n h (.iaddr k x i)=natR (iaddrD n h k (ev e x)) (ev e i):=eqOf rfl
theorem opP_sidx {x i:Opd}:opP call b0 e n h (.sidx x i)=natR (sidxD n h (ev e x)) (ev e i):=eqOf rfl
theorem opP_aidx {ag:Bool} {k m:Nat} {x i:Opd}:opP call b0 e n h (.aidx ag k m x i)=natR (aidxD n h ag k m (ev e x)) (ev e i):=eqOf rfl
theorem opP_slice {k:Nat} {x:Opd} {lo hi mx:Option Opd}:opP call b0 e n h (.slice k x lo hi mx)=sliceD n h k e (ev e x) lo hi mx:=eqOf rfl
theorem opP_sslice {x:Opd} {lo hi:Option Opd}:opP call b0 e n h (.sslice x lo hi)=ssliceD n h e (ev e x) lo hi:=eqOf rfl
theorem opP_ext {x:Opd} {i:Nat}:opP call b0 e n h (.ext x i)=extD n h i (ev e x):=eqOf rfl
theorem opP_mkfn {f:Nat} {a c:List Opd}:opP call b0 e n h (.mkfn f a c) = .ok (.fn f (evs e a) (evs e c)) n h:=eqOf rfl
theorem opP_mksl {k b:Nat} {z:D} {x:Opd}:opP call b0 e n h (.mksl k b z x)=natR (mkslD n h k b z) (ev e x):=eqOf rfl
theorem opP_nilck {x:Opd}:opP call b0 e n h (.nilck x)=nilckD n h (ev e x):=eqOf rfl
theorem opP_look {t:EK} {z:D} {ok:Bool} {m i:Opd}:opP call b0 e n h (.look t z ok m i)=lookD n h t z ok (ev e i) (ev e m):=eqOf rfl
theorem opP_cvi {k:IntKind} {x:Opd}:opP call b0 e n h (.cvi k x)=cviD n h k (ev e x):=eqOf rfl
theorem opP_paddr {k m:Nat} {x i:Opd}:opP call b0 e n h (.paddr k m x i)=natR (paddrD n h k m (ev e x)) (ev e i):=eqOf rfl
theorem opP_mdel {t:EK} {m k:Opd}:opP call b0 e n h (.mdel t m k)=mdelD n h t (ev e k) (ev e m):=eqOf rfl
theorem opP_mupd {t:EK} {m k x:Opd}:opP call b0 e n h (.mupd t m k x)=mupdD n h t (ev e k) (ev e x) (ev e m):=eqOf rfl
theorem opP_len {t:EK} {x:Opd}:opP call b0 e n h (.len t x)=lenD n h t (ev e x):=eqOf rfl
theorem opP_app {k b:Nat} {s x:Opd}:opP call b0 e n h (.app k b s x)=appD n h k b (ev e s) (view k h (ev e x)):=eqOf rfl
theorem opP_max {x y:Opd}:opP call b0 e n h (.max x y)=maxD n h (ev e x) (ev e y):=eqOf rfl
theorem opP_min {x y:Opd}:opP call b0 e n h (.min x y)=minD n h (ev e x) (ev e y):=eqOf rfl
theorem opP_mkmap:opP call b0 e n h .mkmap = .ok (.mp n) n ((n,.map [])::h):=eqOf rfl

theorem opP_call {f:Opd} {args:List Opd}:opP call b0 e n h (.call f args)=callP call b0 n h (ev e f) (evs e args):=eqOf rfl
theorem callP_bar {f:D} {args:List D}:callP call true n h f args=call (n+1) h f args:=eqOf rfl
theorem callP_apart {f:D} {args:List D}:callP call false n h f args=apartC call n h f args (rfL (rd 20) args):=eqOf rfl
theorem apartC_nil {f:D} {args:List D}:apartC call n h f args []=capC call n h f args (rd 20 f):=eqOf rfl
theorem apartC_cons {f:D} {args:List D} {r:Nat} {rs:List Nat}:apartC call n h f args (r::rs)=subC call (reachC h args f) n h f args:=eqOf rfl
theorem capC_nil {f:D} {args:List D}:capC call n h f args []=pureC [] n h f args (call (n+1) [] f args):=eqOf rfl
theorem capC_cons {f:D} {args:List D} {r:Nat} {rs:List Nat}:capC call n h f args (r::rs)=snapC n h (frz h 0 20 f) (args.map (frz h 0 20)) (call (n+1) [] (frz h 0 20 f) (args.map (frz h 0 20))):=by
  rw [← mapL_eq]; rfl
theorem snapC_ok {f d:D} {args:List D} {m:Nat} (h1:clo 20 f=true) (h2:args.all (clo 20)=true) (h3:bare 20 d=true):snapC n h f args (.ok d m []) = .ok d m h:=by
  show ifR (Bool.and (clo 20 f) (Bool.and (allL (clo 20) args) (bare 20 d))) (.ok d m h)=_
  rw [allL_eq,h1,h2,h3]; rfl
theorem bare_int {f:Nat} {q:IntKind} {a:Int}:bare (f+1) (.int q a)=true:=eqOf rfl
theorem bare_bool {f:Nat} {a:Bool}:bare (f+1) (.bool a)=true:=eqOf rfl
theorem bare_str {f:Nat} {a:List Nat}:bare (f+1) (.str a)=true:=eqOf rfl
theorem bare_agg {f:Nat} {cs:List D}:bare (f+1) (.agg cs)=cs.all (bare f):=by
  show allL (bare f) cs=_
  rw [allL_eq]
theorem bare_tup {f:Nat} {cs:List D}:bare (f+1) (.tup cs)=cs.all (bare f):=by
  show allL (bare f) cs=_
  rw [allL_eq]
theorem refsC_eq {f:D} {args:List D}:refsC h f args=appN (rf h 20 f) (rfL (rf h 20) args):=eqOf rfl
theorem rfL_nil {ih:D→List Nat}:rfL ih []=[]:=eqOf rfl
theorem rfL_cons {ih:D→List Nat} {d:D} {l:List D}:rfL ih (d::l)=appN (ih d) (rfL ih l):=eqOf rfl
theorem rf_int {f:Nat} {q:IntKind} {a:Int}:rf h (f+1) (.int q a)=[]:=eqOf rfl
theorem rf_bool {f:Nat} {a:Bool}:rf h (f+1) (.bool a)=[]:=eqOf rfl
theorem rf_str {f:Nat} {a:List Nat}:rf h (f+1) (.str a)=[]:=eqOf rfl
theorem rf_nils {f:Nat}:rf h (f+1) .nils=[]:=eqOf rfl
theorem rf_nilp {f:Nat}:rf h (f+1) .nilp=[]:=eqOf rfl
theorem rf_ip {f j:Nat} {d:D}:rf h (f+1) (.ip d j)=[]:=eqOf rfl
theorem rf_sl {f k:Nat} {a b:List D} {c:Bool}:rf h (f+1) (.sl k a b c)=[]:=eqOf rfl
theorem rf_slD {α:Type} {k f:Nat} {enc:α→D} {sl:Sl α}:rf h (f+1) (slD k enc sl)=[]:=by
  rcases slD_isSl k enc sl with ⟨h1,_⟩ | ⟨_,_,h1⟩ <;> rw [h1] <;> rfl
theorem rf_agg {f:Nat} {cs:List D}:rf h (f+1) (.agg cs)=rfL (rf h f) cs:=eqOf rfl
theorem rf_tup {f:Nat} {cs:List D}:rf h (f+1) (.tup cs)=rfL (rf h f) cs:=eqOf rfl
theorem rf_fn {f g:Nat} {a c:List D}:rf h (f+1) (.fn g a c)=appN (rfL (rf h f) a) (rfL (rf h f) c):=eqOf rfl
theorem rf_ptr {f r i j:Nat}:rf h (f+1) (.ptr r i j)=r::rfP (rf h f) i (getO h r):=eqOf rfl
theorem rfP_row {ih:D→List Nat} {i k:Nat} {es:List D}:rfP ih i (.row k es)=ih (es.getD i .junk):=by
  show ih (nth es i)=_
  rw [nth_eq]
theorem frz_int {f m:Nat} {q:IntKind} {a:Int}:frz h m (f+1) (.int q a) = .int q a:=eqOf rfl
theorem frz_bool {f m:Nat} {a:Bool}:frz h m (f+1) (.bool a) = .bool a:=eqOf rfl
theorem frz_str {f m:Nat} {a:List Nat}:frz h m (f+1) (.str a) = .str a:=eqOf rfl
theorem frz_nils {f m:Nat}:frz h m (f+1) .nils = .nils:=eqOf rfl
theorem frz_nilp {f m:Nat}:frz h m (f+1) .nilp = .nilp:=eqOf rfl
theorem frz_ip {f m j:Nat} {d:D}:frz h m (f+1) (.ip d j) = .ip d j:=eqOf rfl
theorem frz_sl {f m k:Nat} {a b:List D} {c:Bool}:frz h m (f+1) (.sl k a b c) = .sl k a b c:=eqOf rfl
theorem frz_slD {α:Type} {k f m:Nat} {enc:α→D} {sl:Sl α}:frz h m (f+1) (slD k enc sl)=slD k enc sl:=by
  rcases slD_isSl k enc sl with ⟨h1,_⟩ | ⟨_,_,h1⟩ <;> rw [h1] <;> rfl
theorem frz_agg {f m:Nat} {cs:List D}:frz h m (f+1) (.agg cs) = .agg (cs.map (frz h m f)):=by rw [← mapL_eq]; rfl
theorem frz_tup {f m:Nat} {cs:List D}:frz h m (f+1) (.tup cs) = .tup (cs.map (frz h m f)):=by rw [← mapL_eq]; rfl
theorem frz_fn {f m g:Nat} {a c:List D}:frz h m (f+1) (.fn g a c) = .fn g (a.map (frz h m f)) (c.map (frz h m f)):=by rw [← mapL_eq,← mapL_eq]; rfl
theorem frz_ptr {f r i j:Nat}:frz h 0 (f+1) (.ptr r i j)=frzP (frz h 0 f) i j (getO h r):=by
  show Bool.rec (motive:=fun _=>D) (frzP (frz h 0 f) i j (getO h r)) (.ptr r i j) (Nat.blt r 0)=_
  rw [blt_iff,decide_eq_false (Nat.not_lt_zero _)]
theorem frzP_row {ih:D→D} {i j k:Nat} {es:List D}:frzP ih i j (.row k es)=frzI k j (ih (es.getD i .junk)):=by
  show frzI k j (ih (nth es i))=_
  rw [nth_eq]
theorem frzI_ok {k j:Nat} {e:D} (he:okE k e=true):frzI k j e = .ip e j:=by
  show Bool.rec (motive:=fun _=>D) .junk (.ip e j) (okE k e)=_
  rw [he]
theorem pureC_ok {f d:D} {args:List D} {m:Nat} (h1:inD (fun r=>memN r []) 20 f=true) (h2:args.all (inD (fun r=>memN r []) 20)=true) (h3:inD (ofR [] (n+1)) 20 d=true):pureC [] n h f args (.ok d m []) = .ok d m h:=by
  show ifR (Bool.and true (Bool.and (inD (fun r=>memN r []) 20 f) (Bool.and (allL (inD (fun r=>memN r []) 20) args) (Bool.and true (Bool.and (inD (ofR [] (n+1)) 20 d) true))))) (.ok d m h)=_
  rw [allL_eq,h1,h2,h3]; rfl
theorem runDraw_nil {sd:Nat} {un:List (List Nat)} {ts:List TW} {bar:List Bool}:runDraw sd call [] un bar ts e n h = .ok .normal e n h:=eqOf rfl
theorem runDraw_none {sd:Nat} {dst:Option Po} {o:DOp} {l:List DOper} {ut:List (List Nat)} {ts:List TW} {u:List Nat} {bt:List Bool}:runDraw sd call (.op dst none o::l) (u::ut) (b0::bt) ts e n h=drawK sd (runDraw sd call l ut bt) ts e n h u dst o (opP call b0 e n h o):=eqOf rfl
theorem drawK_nil {sd:Nat} {K:List TW→Tr→Nat→Hps→Re} {dst:Option Po} {o:DOp} {ts:List TW} {d:D} {n1:Nat} {h1:Hps} (hn:n1 < n+sd):drawK sd K ts e n h [] dst o (.ok d n1 h1)=K ((touchR e n o h h1,rdo o)::ts) (putE e dst d) (n+sd) h1:=by
  show Bool.rec (motive:=fun _=>Re) .bad (K ((touchR e n o h h1,rdo o)::ts) (putE e dst d) (n+sd) h1) (Bool.and (Nat.blt n1 (n+sd)) true)=_
  rw [blt_iff,decide_eq_true hn]; rfl
theorem drawK_un {sd:Nat} {K:List TW→Tr→Nat→Hps→Re} {dst:Option Po} {o:DOp} {ts:List TW} {u:Nat} {us:List Nat} {d:D} {n1:Nat} {h1:Hps} (hn:n1 < n+sd):drawK sd K ts e n h (u::us) dst o (.ok d n1 h1)=if apartAll (touchR e n o h h1) (writR o (touchR e n o h h1) h h1) ts (u::us)=true then K ((touchR e n o h h1,rdo o)::ts) (putE e dst d) (n+sd) h1 else .bad:=by
  show Bool.rec (motive:=fun _=>Re) .bad (K ((touchR e n o h h1,rdo o)::ts) (putE e dst d) (n+sd) h1) (Bool.and (Nat.blt n1 (n+sd)) (apartAll (touchR e n o h h1) (writR o (touchR e n o h h1) h h1) ts (u::us)))=_
  rw [blt_iff,decide_eq_true hn]
  cases apartAll (touchR e n o h h1) (writR o (touchR e n o h h1) h h1) ts (u::us) <;> rfl
theorem runDraw_some {sd:Nat} {dst:Option Po} {g:Po×Bool} {o:DOp} {l:List DOper} {ut:List (List Nat)} {ts:List TW} {u:List Nat} {bt:List Bool}:runDraw sd call (.op dst (some g) o::l) (u::ut) (b0::bt) ts e n h=stepQ sd call (runDraw sd call l ut bt) b0 ts e n h u dst o (wantB g.2 (get g.1 e)):=eqOf rfl
theorem stepQ_true {sd:Nat} {K:List TW→Tr→Nat→Hps→Re} {dst:Option Po} {o:DOp} {ts:List TW} {u:List Nat}:stepQ sd call K b0 ts e n h u dst o (.ok true)=drawK sd K ts e n h u dst o (opP call b0 e n h o):=eqOf rfl
theorem stepQ_false {sd:Nat} {K:List TW→Tr→Nat→Hps→Re} {dst:Option Po} {o:DOp} {ts:List TW} {u:List Nat}:stepQ sd call K b0 ts e n h u dst o (.ok false)=K (([],false)::ts) (putE e dst (.tup [])) (n+sd) h:=eqOf rfl
theorem stride_eq:stride=1099511627776:=eqOf rfl
theorem rd_int {f:Nat} {q:IntKind} {a:Int}:rd (f+1) (.int q a)=[]:=eqOf rfl
theorem rd_bool {f:Nat} {a:Bool}:rd (f+1) (.bool a)=[]:=eqOf rfl
theorem rd_str {f:Nat} {a:List Nat}:rd (f+1) (.str a)=[]:=eqOf rfl
theorem rd_nils {f:Nat}:rd (f+1) .nils=[]:=eqOf rfl
theorem rd_nilp {f:Nat}:rd (f+1) .nilp=[]:=eqOf rfl
theorem rd_nilf {f:Nat}:rd (f+1) .nilf=[]:=eqOf rfl
theorem rd_ip {f j:Nat} {d:D}:rd (f+1) (.ip d j)=[]:=eqOf rfl
theorem rd_sl {f k:Nat} {a b:List D} {c:Bool}:rd (f+1) (.sl k a b c)=[]:=eqOf rfl
theorem rd_slD {α:Type} {k f:Nat} {enc:α→D} {sl:Sl α}:rd (f+1) (slD k enc sl)=[]:=by
  rcases slD_isSl k enc sl with ⟨h1,_⟩ | ⟨_,_,h1⟩ <;> rw [h1] <;> rfl
theorem rd_agg {f:Nat} {cs:List D}:rd (f+1) (.agg cs)=rfL (rd f) cs:=eqOf rfl
theorem rd_tup {f:Nat} {cs:List D}:rd (f+1) (.tup cs)=rfL (rd f) cs:=eqOf rfl
theorem rd_fn {f g:Nat} {a c:List D}:rd (f+1) (.fn g a c)=appN (rfL (rd f) a) (rfL (rd f) c):=eqOf rfl
theorem rd_ptr {f r i j:Nat}:rd (f+1) (.ptr r i j)=[r]:=eqOf rfl
theorem rd_ms {f k r o l:Nat} {b:Bool}:rd (f+1) (.ms k r o l b)=[r]:=eqOf rfl
theorem rd_mp {f r:Nat}:rd (f+1) (.mp r)=[r]:=eqOf rfl
theorem in_int {p:Nat→Bool} {f:Nat} {q:IntKind} {a:Int}:inD p (f+1) (.int q a)=true:=eqOf rfl
theorem in_bool {p:Nat→Bool} {f:Nat} {a:Bool}:inD p (f+1) (.bool a)=true:=eqOf rfl
theorem in_str {p:Nat→Bool} {f:Nat} {a:List Nat}:inD p (f+1) (.str a)=true:=eqOf rfl
theorem in_nils {p:Nat→Bool} {f:Nat}:inD p (f+1) .nils=true:=eqOf rfl
theorem in_nilp {p:Nat→Bool} {f:Nat}:inD p (f+1) .nilp=true:=eqOf rfl
theorem in_nilf {p:Nat→Bool} {f:Nat}:inD p (f+1) .nilf=true:=eqOf rfl
theorem in_ip {p:Nat→Bool} {f j:Nat} {d:D}:inD p (f+1) (.ip d j)=true:=eqOf rfl
theorem in_sl {p:Nat→Bool} {f q:Nat} {a b:List D} {c:Bool}:inD p (f+1) (.sl q a b c)=true:=eqOf rfl
theorem in_slD {p:Nat→Bool} {α:Type} {k:Nat} {enc:α→D} {sl:Sl α} {f:Nat}:inD p (f+1) (slD k enc sl)=true:=by
  rcases slD_isSl k enc sl with ⟨h1,_⟩ | ⟨_,_,h1⟩ <;> rw [h1] <;> rfl
theorem in_agg {p:Nat→Bool} {f:Nat} {cs:List D}:inD p (f+1) (.agg cs)=cs.all (inD p f):=by
  show allL (inD p f) cs=_
  rw [allL_eq]
theorem in_tup {p:Nat→Bool} {f:Nat} {cs:List D}:inD p (f+1) (.tup cs)=cs.all (inD p f):=by
  show allL (inD p f) cs=_
  rw [allL_eq]
theorem in_fn {p:Nat→Bool} {f g:Nat} {a c:List D}:inD p (f+1) (.fn g a c) = (a.all (inD p f) && c.all (inD p f)):=by
  show Bool.and (allL (inD p f) a) (allL (inD p f) c)=_
  rw [allL_eq,allL_eq]
theorem in_ptr {p:Nat→Bool} {f r i j:Nat}:inD p (f+1) (.ptr r i j)=p r:=eqOf rfl
theorem apartR_nil {f:D} {args:List D}:apartR h f args []=capR h f args (rd 20 f):=eqOf rfl
theorem apartR_cons {f:D} {args:List D} {r:Nat} {rs:List Nat}:apartR h f args (r::rs)=reachC h args f:=eqOf rfl
theorem capR_nil {f:D} {args:List D}:capR h f args []=[]:=eqOf rfl
theorem capR_cons {f:D} {args:List D} {r:Nat} {rs:List Nat}:capR h f args (r::rs)=refsC h f args:=eqOf rfl
theorem reach_cons {f r:Nat} {t seen:List Nat}:reach h (f+1) (r::t) seen=if memN r seen=true then reach h f t seen else reach h f (appN (rdOb (getO h r)) t) (r::seen):=by
  show Bool.rec (motive:=fun _=>List Nat) (reach h f (appN (rdOb (getO h r)) t) (r::seen)) (reach h f t seen) (memN r seen)=_
  cases memN r seen <;> rfl
theorem clo_int {f:Nat} {q:IntKind} {a:Int}:clo (f+1) (.int q a)=true:=eqOf rfl
theorem clo_bool {f:Nat} {a:Bool}:clo (f+1) (.bool a)=true:=eqOf rfl
theorem clo_str {f:Nat} {a:List Nat}:clo (f+1) (.str a)=true:=eqOf rfl
theorem clo_nils {f:Nat}:clo (f+1) .nils=true:=eqOf rfl
theorem clo_sl {f q:Nat} {a b:List D} {c:Bool}:clo (f+1) (.sl q a b c)=true:=eqOf rfl
theorem clo_ip {f j:Nat} {d:D}:clo (f+1) (.ip d j)=true:=eqOf rfl
theorem clo_nilp {f:Nat}:clo (f+1) .nilp=true:=eqOf rfl
theorem clo_fnc {f g:Nat} {a c:List D}:clo (f+1) (.fn g a c) = (a.all (clo f) && c.all (clo f)):=by
  show Bool.and (allL (clo f) a) (allL (clo f) c)=_
  rw [allL_eq,allL_eq]
theorem clo_fn0 {f g:Nat}:clo (f+1) (.fn g [] [])=true:=eqOf rfl
theorem clo_agg {f:Nat} {cs:List D}:clo (f+1) (.agg cs)=cs.all (clo f):=by
  show allL (clo f) cs=_
  rw [allL_eq]
theorem clo_tup {f:Nat} {cs:List D}:clo (f+1) (.tup cs)=cs.all (clo f):=by
  show allL (clo f) cs=_
  rw [allL_eq]
theorem notD_bool {b:Bool}:notD n h (.bool b) = .ok (.bool (!b)) n h:=eqOf rfl
theorem extD_tup {i:Nat} {vs:List D}:extD n h i (.tup vs)=okD n h (vs.getD i .junk):=by
  show okD n h (nth vs i)=_
  rw [nth_eq]
theorem eqD_bool {a b:Bool}:eqD .bool (.bool a) (.bool b) = .ok (a == b):=by
  show OB.ok (eqB a b)=_
  rw [eqB_eq]
theorem obR_pos {b:Bool}:obR n h false (.ok b) = .ok (.bool b) n h:=by cases b <;> exact eqOf rfl
theorem obR_neg {b:Bool}:obR n h true (.ok b) = .ok (.bool (!b)) n h:=by cases b <;> exact eqOf rfl
theorem maxD_int {a b:Int}:maxD n h (.int .i64 a) (.int .i64 b) = .ok (.int .i64 (max a b)) n h:=by
  show Rd.ok (.int .i64 (Bool.rec (motive:=fun _=>Int) a b (ltI a b))) n h=_
  rw [ltI_eq]
  by_cases hab:a < b
  · rw [decide_eq_true hab,Int.max_eq_right (Int.le_of_lt hab)]
  · rw [decide_eq_false hab,Int.max_eq_left (Int.not_lt.1 hab)]
theorem minD_int {a b:Int}:minD n h (.int .i64 a) (.int .i64 b) = .ok (.int .i64 (min a b)) n h:=by
  show Rd.ok (.int .i64 (Bool.rec (motive:=fun _=>Int) a b (ltI b a))) n h=_
  rw [ltI_eq]
  by_cases hab:b < a
  · rw [decide_eq_true hab,Int.min_eq_right (Int.le_of_lt hab)]
  · rw [decide_eq_false hab,Int.min_eq_left (Int.not_lt.1 hab)]
theorem tr_load {ag:Bool} {k:Nat} {a:Opd} {h':Hps}:touchR e n (.load ag k a) h h'=refO (ev e a):=eqOf rfl
theorem tr_store {ag:Bool} {k:Nat} {a x:Opd} {h':Hps}:touchR e n (.store ag k a x) h h'=refO (ev e a):=eqOf rfl
theorem tr_app {k b:Nat} {s x:Opd} {h':Hps}:touchR e n (.app k b s x) h h'=n::appN (refO (ev e s)) (refO (ev e x)):=eqOf rfl
theorem tr_look {t:EK} {z:D} {ok:Bool} {m i:Opd} {h':Hps}:touchR e n (.look t z ok m i) h h'=refO (ev e m):=eqOf rfl
theorem tr_mupd {t:EK} {m k x:Opd} {h':Hps}:touchR e n (.mupd t m k x) h h'=refO (ev e m):=eqOf rfl
theorem tr_mdel {t:EK} {m k:Opd} {h':Hps}:touchR e n (.mdel t m k) h h'=refO (ev e m):=eqOf rfl
theorem tr_len {t:EK} {x:Opd} {h':Hps}:touchR e n (.len t x) h h'=refO (ev e x):=eqOf rfl
theorem tr_new {k:Nat} {z:D} {h':Hps}:touchR e n (.new k z) h h'=[n]:=eqOf rfl
theorem tr_box {k:Nat} {x:Opd} {h':Hps}:touchR e n (.box k x) h h'=[n]:=eqOf rfl
theorem tr_bsl {k:Nat} {es:List Opd} {h':Hps}:touchR e n (.bsl k es) h h'=[n]:=eqOf rfl
theorem tr_mksl {k b:Nat} {z:D} {x:Opd} {h':Hps}:touchR e n (.mksl k b z x) h h'=[n]:=eqOf rfl
theorem tr_mkmap  {h':Hps}:touchR e n (.mkmap) h h'=[n]:=eqOf rfl
theorem tr_call {f:Opd} {args:List Opd} {h':Hps}:touchR e n (.call f args) h h'=appN (apartR h (ev e f) (evs e args) (rfL (rd 20) (evs e args))) (keysFrom n h'):=eqOf rfl
theorem tr_mv {x:Opd} {h':Hps}:touchR e n (.mv x) h h'=[]:=eqOf rfl
theorem tr_pick {c a b:Opd} {h':Hps}:touchR e n (.pick c a b) h h'=[]:=eqOf rfl
theorem tr_bin {op:BinOp} {x y:Opd} {h':Hps}:touchR e n (.bin op x y) h h'=[]:=eqOf rfl
theorem tr_faddr {off:Nat} {x:Opd} {h':Hps}:touchR e n (.faddr off x) h h'=[]:=eqOf rfl
theorem tr_iaddr {k:Nat} {x i:Opd} {h':Hps}:touchR e n (.iaddr k x i) h h'=[]:=eqOf rfl
theorem tr_ext {x:Opd} {i:Nat} {h':Hps}:touchR e n (.ext x i) h h'=[]:=eqOf rfl
theorem apart_nil {w:List Nat} {ts:List TW} {un:List Nat}:apartAll [] w ts un=true := (apartAll_eq _ _ _ _).2 (fun _ _=>rfl)
theorem apart_no {t w:List Nat} {ts:List TW}:apartAll t w ts []=true:=eqOf rfl
theorem apart_cons {t w:List Nat} {ts:List TW} {i:Nat} {un:List Nat}:apartAll t w ts (i::un) = (apart2 t w (nthT ts i) && apartAll t w ts un):=by
  show Bool.rec (motive:=fun _=>Bool) false (apartAll t w ts un) (apart2 t w (nthT ts i))=_
  cases apart2 t w (nthT ts i) <;> rfl
theorem apart_pair {t w a:List Nat} {b:Bool}:apart2 t w (a,b) = (disj t a || (b && disj w a)):=eqOf rfl
theorem rdo_load {ag:Bool} {k:Nat} {a:Opd}:rdo (.load ag k a)=true:=eqOf rfl
theorem disj_nil {b:List Nat}:disj [] b=true:=eqOf rfl
theorem disj_none {a:List Nat}:disj a []=true := (disj_eq _ _).2 (fun _ _ hx=>absurd hx (by simp))
theorem disj_cons {x:Nat} {a b:List Nat}:disj (x::a) b = (!(memN x b) && disj a b):=by
  show Bool.rec (motive:=fun _=>Bool) (disj a b) false (memN x b)=_
  cases memN x b <;> rfl
theorem memN_nil {r:Nat}:memN r []=false:=eqOf rfl
theorem memN_cons {r a:Nat} {l:List Nat}:memN r (a::l) = (decide (a=r) || memN r l):=by
  show Bool.rec (motive:=fun _=>Bool) (memN r l) true (Nat.beq a r)=_
  rw [beq_iff]
  cases decide (a=r) <;> rfl
theorem nthT_zero {a:TW} {l:List TW}:nthT (a::l) 0=a:=eqOf rfl
theorem nthT_succ {a:TW} {l:List TW} {i:Nat}:nthT (a::l) (i+1)=nthT l i:=eqOf rfl
theorem refO_ptr {r i j:Nat}:refO (.ptr r i j)=[r]:=eqOf rfl
theorem refO_ms {k r o l:Nat} {f:Bool}:refO (.ms k r o l f)=[r]:=eqOf rfl
theorem refO_mp {r:Nat}:refO (.mp r)=[r]:=eqOf rfl
theorem refO_ip {d:D} {j:Nat}:refO (.ip d j)=[]:=eqOf rfl
theorem refO_nils:refO .nils=[]:=eqOf rfl
theorem refO_str {l:List Nat}:refO (.str l)=[]:=eqOf rfl
theorem refO_sl {k:Nat} {a b:List D} {f:Bool}:refO (.sl k a b f)=[]:=eqOf rfl
theorem refO_slD {α:Type} {k:Nat} {enc:α→D} {sl:Sl α}:refO (slD k enc sl)=[]:=by
  rcases slD_isSl k enc sl with ⟨h1,_⟩ | ⟨_,_,h1⟩ <;> rw [h1] <;> rfl
theorem appN_nil {l:List Nat}:appN [] l=l:=eqOf rfl
theorem appN_cons {a:Nat} {l m:List Nat}:appN (a::l) m=a::appN l m:=eqOf rfl
theorem keys_low (hg:GoodAt n h):keysFrom n h=[]:=by
  apply List.eq_nil_iff_forall_not_mem.2
  intro q hq
  obtain ⟨h1,h2⟩:=keysFrom_mem.1 hq
  obtain ⟨p,hp,rfl⟩:=List.mem_map.1 h1
  have := (hg p hp).1
  omega
theorem andT {b:Bool}:Bool.and b true=b:=by cases b <;> rfl
theorem beq_dec {k m:Nat}:Nat.beq k m=decide (k=m):=beq_iff k m
theorem okE_agg {k:Nat} {cs:List D}:okE k (.agg cs) = (decide (k=cs.length) && cs.all (clo 19)):=by
  show Bool.and (Nat.beq k (lenL cs)) (allL (clo 19) cs)=_
  rw [allL_eq,lenL_eq,beq_dec]
theorem okE_int {k:Nat} {q:IntKind} {a:Int}:okE k (.int q a) = (decide (k=1)):=by
  show Bool.and (Nat.beq k 1) true=_
  rw [beq_dec,andT]
theorem okE_bool {k:Nat} {a:Bool}:okE k (.bool a) = (decide (k=1)):=by
  show Bool.and (Nat.beq k 1) true=_
  rw [beq_dec,andT]
theorem okE_str {k:Nat} {a:List Nat}:okE k (.str a) = (decide (k=1)):=by
  show Bool.and (Nat.beq k 1) true=_
  rw [beq_dec,andT]
theorem okE_nils {k:Nat}:okE k .nils = (decide (k=1)):=by
  show Bool.and (Nat.beq k 1) true=_
  rw [beq_dec,andT]
theorem okE_sl {k q:Nat} {a b:List D} {f:Bool}:okE k (.sl q a b f) = (decide (k=1)):=by
  show Bool.and (Nat.beq k 1) true=_
  rw [beq_dec,andT]
theorem okE_slD {α:Type} {k q:Nat} {enc:α→D} {sl:Sl α}:okE k (slD q enc sl) = (decide (k=1)):=by
  rcases slD_isSl q enc sl with ⟨h1,_⟩ | ⟨_,_,h1⟩ <;> rw [h1]
  · exact okE_nils
  · exact okE_sl
theorem bsl_all {q:Nat} {es:List D} (hd:es.all (okE q)=true):bslD n h q es = .ok (.sl q es [] true) n h:=by
  show Bool.rec (motive:=fun _=>Rd) (ifR (allL (okF q) es) (.ok (.ms q n 0 (lenL es) true) n ((n,.row q es)::h))) (.ok (.sl q es [] true) n h) (allL (okE q) es)=_
  have:allL (okE q) es=true:=by rw [allL_eq]; exact hd
  rw [this]
theorem memN_app {q:Nat} {a b:List Nat}:memN q (appN a b) = (memN q a || memN q b):=by
  induction a with
  | nil=>rfl
  | cons x t ih =>
    show memN q (x::appN t b)=_
    rw [memN_cons,memN_cons,ih,Bool.or_assoc]
theorem eqD_struct {ts:List EK} {l m:List D}:eqD (.struct ts) (.agg l) (.agg m)=eqL ts l m:=eqOf rfl
theorem eqL_nil {l m:List D}:eqL [] l m = .ok true:=eqOf rfl
theorem eqL_cons {t:EK} {ts:List EK} {x y:D} {l m:List D}:eqL (t::ts) (x::l) (y::m)=andOB (eq1 t x y) (eqL ts l m):=eqOf rfl
theorem eq1_int {k:IntKind} {a b:Int}:eq1 (.int k) (.int k a) (.int k b) = .ok (decide (a=b)):=by
  show Bool.rec (motive:=fun _=>OB) .bad (.ok (eqI a b)) (Bool.and (Nat.beq (kc k) (kc k)) (Nat.beq (kc k) (kc k)))=_
  rw [Nat.beq_refl,eqI_eq]; rfl
theorem eq1_bool {a b:Bool}:eq1 .bool (.bool a) (.bool b) = .ok (a == b):=by
  show OB.ok (eqB a b)=_
  rw [eqB_eq]
theorem eq1_str {a b:List Nat}:eq1 .str (.str a) (.str b) = .ok (a == b):=by
  show OB.ok (eqN a b)=_
  rw [eqN_eq]
theorem andOB_ok {a b:Bool}:andOB (.ok a) (.ok b) = .ok (a && b):=by cases a <;> cases b <;> rfl
theorem disj_app {a b c:List Nat}:disj (appN a b) c = (disj a c && disj b c):=by
  rw [Bool.eq_iff_iff,Bool.and_eq_true,disj_eq,disj_eq,disj_eq,appN_eq]
  simp only [List.mem_append]
  exact ⟨fun h=>⟨fun x hx=>h x (.inl hx),fun x hx=>h x (.inr hx)⟩,fun h x hx=>hx.elim (h.1 x) (h.2 x)⟩
end
end Go.Proofs.Ytpbpmpabndgeeaa
