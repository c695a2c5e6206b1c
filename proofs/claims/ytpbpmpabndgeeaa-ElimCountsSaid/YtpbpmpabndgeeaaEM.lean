/- The type of the eliminator, its loop. No condition but sizes. -/
import Derived.Test.YtpbpmpabndgeeaaEJ
set_option linter.unusedSimpArgs false
set_option linter.unusedVariables false
namespace Go.Proofs.Ytpbpmpabndgeeaa
open Go
open Nat (reduceAdd reduceLT reduceLeDiff reduceEqDiff reduceMul)

theorem rng_ab {F:Nat→DFn} {X:RunF} {e:Tr} {n:Nat} {h:Hps} {ps:List Po} {a b:DCode} {f:D} {r0:Re} (hr:rngF F X e n h ps a b f=r0):∃ a' b',a'=a∧b'=b∧rngF F X e n h ps a' b' f=r0:=⟨a,b,rfl,rfl,hr⟩
theorem round_run2 {F:Nat→DFn} {r k n:Nat} {env:Tr} {p1 p2:Po} {a b:DCode} {h h1 h2:Hps} {d1 d2:D} {e1 e2:Tr} {n1 n2:Nat} {x:Ex} (hr:getO h r = .loop k env [p1,p2] a b .none)
    (ha:LX F a (putT p2 d2 (putT p1 d1 env)) n (delO h r) = .ok .normal e1 n1 h1) (hb:LX F b e1 n1 h1 = .ok x e2 n2 h2):callX F (LX F) n h (.yld r) [d1,d2]=endRound r k env [p1,p2] a b n2 h2 x:=by
  show round (LX F) r n h [d1,d2] (getO h r)=_
  rw [hr]
  show begRound (LX F) r k n h env [p1,p2] a b (.ok .normal (putT p2 d2 (putT p1 d1 env)) 0 [])=_
  show midRound (LX F) r k env [p1,p2] a b (LX F a (putT p2 d2 (putT p1 d1 env)) n (delO h r))=_
  rw [ha]
  show lastRound r k env [p1,p2] a b (LX F b e1 n1 h1)=_
  rw [hb]; rfl
def Rows (L:Nat) (l:List Tm) (g:Hps) (d:D):Prop := (l=[]∧d = .nils)∨∃ rr,d = .ms 6 rr 0 l.length false∧l≠[]∧L < rr∧getO g rr = .row 6 (l.map encT)
structure TS (h:Hps) (n f:Nat) (l:List Tm) (m:Nat) (g:Hps):Prop where
  le:n+14≤m
  gd:Gd m g
  keep:∀ x,x < n→getO g x=getO h x
  y1:getO g n = .row 1 [.ptr f 0 0]
  y2:getO g (n+1) = (Ob.row 6 [.agg [.int .i64 0,.int .i64 0,.bool false,.str [],.nils,.nils]])
  y3:∃ d,getO g (n+3) = .row 1 [d]∧Rows (n+13) l g d
  y4:getO g (n+4) = .row 1 [.bool true]
  y8:getO g (n+8) = .row 1 [.ptr f 0 0]
theorem TS.get {h:Hps} {n f:Nat} {l:List Tm} {m m':Nat} {g g':Hps} (T:TS h n f l m g) (hm:m≤m') (hg:Gd m' g') (hk:∀ x,x < m→x≠n+13→getO g' x=getO g x):TS h n f l m' g':=by
  have hl:=T.le
  refine ⟨by omega,hg,fun x hx=>by rw [hk x (by omega) (by omega)]; exact T.keep x hx,by rw [hk _ (by omega) (by omega)]; exact T.y1,by rw [hk _ (by omega) (by omega)]; exact T.y2,?_,by rw [hk _ (by omega) (by omega)]; exact T.y4,by rw [hk _ (by omega) (by omega)]; exact T.y8⟩
  obtain ⟨d,a1,a2⟩:=T.y3
  refine ⟨d,by rw [hk _ (by omega) (by omega)]; exact a1,?_⟩
  rcases a2 with a2 | ⟨rr,b1,b2,b3,b4⟩
  · exact .inl a2
  · have:rr < m:=getO_low (T.gd m (Nat.le_refl _)) (by rw [b4]; simp)
    exact .inr ⟨rr,b1,b2,b3,by rw [hk _ this (by omega)]; exact b4⟩
theorem TS.one {h g g1:Hps} {n f m m2 b:Nat} {Y:Tm} (T:TS h n f [] m g) (s2:∀ q,getO g1 q=getO g q) (hG:∀ k,m≤k→Gd k g1) (hb:m≤b) (hm:b < m2) :
    TS h n f [Y] m2 ((b,.row 6 [encT Y])::setO g1 (n+3) (.row 1 [.ms 6 b 0 1 false])):=by
  have hl:=T.le
  obtain ⟨d,a1,_⟩:=T.y3
  have h3:getO g1 (n+3) ≠ .none:=by rw [s2,a1]; simp
  have G:∀ x,x≠b→x≠n+3→getO ((b,.row 6 [encT Y])::setO g1 (n+3) (.row 1 [.ms 6 b 0 1 false])) x=getO g x:=fun x h1 h2=>by
    rw [getO_tl (fun e=>h1 e.symm),getO_setO _ _ _ _ h3,if_neg h2,s2]
  refine ⟨by omega,fun k hk=>good_cons.2 ⟨by omega,lowO_one (low_flat (flatT _)),good_set (hG k (by omega) k (Nat.le_refl _)) (lowO_one (low_ms (by omega)))⟩,fun x hx=>by rw [G x (by omega) (by omega)]; exact T.keep x hx,by rw [G _ (by omega) (by omega)]; exact T.y1,by rw [G _ (by omega) (by omega)]; exact T.y2,?_,by rw [G _ (by omega) (by omega)]; exact T.y4,by rw [G _ (by omega) (by omega)]; exact T.y8⟩
  exact ⟨.ms 6 b 0 1 false,by rw [getO_tl (by omega),getO_setO_same h3],.inr ⟨b,rfl,by simp,by omega,by rw [getO_hd]; rfl⟩⟩
theorem TS.more {h g g1:Hps} {n f m m2 b rr:Nat} {l:List Tm} {Y:Tm} (T:TS h n f l m g) (s2:∀ q,getO g1 q=getO g q) (hG:∀ k,m≤k→Gd k g1) (hb:m≤b) (hm:b < m2) (hr:n+13 < rr) :
    TS h n f (l++[Y]) m2 ((b,.row 6 ((l++[Y]).map encT))::setO (delO g1 rr) (n+3) (.row 1 [.ms 6 b 0 (l.length+1) false])):=by
  have hl:=T.le
  obtain ⟨d,a1,_⟩:=T.y3
  have h3:getO (delO g1 rr) (n+3) ≠ .none:=by rw [getO_delO,if_neg (by omega),s2,a1]; simp
  have G:∀ x,x≠b→x≠n+3→x≠rr→getO ((b,.row 6 ((l++[Y]).map encT))::setO (delO g1 rr) (n+3) (.row 1 [.ms 6 b 0 (l.length+1) false])) x=getO g x:=fun x h1 h2 h4=>by
    rw [getO_tl (fun e=>h1 e.symm),getO_setO _ _ _ _ h3,if_neg h2,getO_delO,if_neg h4,s2]
  refine ⟨by omega,fun k hk=>good_cons.2 ⟨by omega,lowO_row (fun x hx=>by obtain ⟨c,_,rfl⟩:=List.mem_map.1 hx; exact low_flat (flatT _)),good_set (good_del (hG k (by omega) k (Nat.le_refl _))) (lowO_one (low_ms (by omega)))⟩,fun x hx=>by rw [G x (by omega) (by omega) (by omega)]; exact T.keep x hx,by rw [G _ (by omega) (by omega) (by omega)]; exact T.y1,by rw [G _ (by omega) (by omega) (by omega)]; exact T.y2,?_,by rw [G _ (by omega) (by omega) (by omega)]; exact T.y4,by rw [G _ (by omega) (by omega) (by omega)]; exact T.y8⟩
  exact ⟨_,by rw [getO_tl (by omega),getO_setO_same h3],.inr ⟨b,by simp,by simp,by omega,by rw [getO_hd]⟩⟩
theorem st_all {m r:Nat} {h:Hps} {l:List Tm} {Y:Tm}:storeR true 6 r l.length 0 (D.agg [.int .i64 (Y).form,.int .i64 (Y).n,.bool (Y).hid,.str (Y).name,slD 2 encL (Y).levels,slD 6 encT (Y).kids]) m h (.row 6 (l.map encT++[(D.agg [.int .i64 0,.int .i64 0,.bool false,.str [],.nils,.nils])])) = .ok .junk m (setO h r (.row 6 ((l++[Y]).map encT))):=by
  have e0 : (l++[Y]).map encT = (l.map encT++[(D.agg [.int .i64 0,.int .i64 0,.bool false,.str [],.nils,.nils])]).set l.length (encT Y):=by
    rw [List.map_append,List.set_append_right _ _ (by simp)]
    simp
  rw [e0]
  clear e0
  have e1:encT Y = (D.agg [.int .i64 (Y).form,.int .i64 (Y).n,.bool (Y).hid,.str (Y).name,slD 2 encL (Y).levels,slD 6 encT (Y).kids]):=by rw [encT_eq]
  rw [e1]
  generalize hes:l.map encT=es
  have hl:l.length=es.length:=by rw [← hes,List.length_map]
  rw [hl]
  exact storeR_all (n:=m) (h:=h) (k:=6) (q:=6) (i:=es.length) (r:=r) (es:=es++[(D.agg [.int .i64 0,.int .i64 0,.bool false,.str [],.nils,.nils])]) (xs:=[.int .i64 Y.form,.int .i64 Y.n,.bool Y.hid,.str Y.name,slD 2 encL Y.levels,slD 6 encT Y.kids]) (ys:=[.int .i64 0,.int .i64 0,.bool false,.str [],.nils,.nils]) (by rw [List.getD_eq_getElem?_getD,List.getElem?_append_right (by simp)]; simp) (by simp) rfl rfl
noncomputable def aT:DCode := (.seq (.reg [(.op (.some (po 6)) .none (.mv (.s (po 15))))]) (.reg [(.op (.some (po 7)) .none (.mv (.s (po 16))))]))
noncomputable def bT:DCode := (.block 1 (.seq (.seq (.reg [(.op (.some (po 17)) .none (.mv (.s (po 7)))),(.op (.some (po 18)) .none (.cmp .false .ptr (.s (po 17)) (.k .nilp)))]) (.cond (.s (po 18)) (.seq (.reg [(.op .none .none (.store .false 1 (.s (po 5)) (.k (.bool .false))))]) (.exit 0)) .skip)) (.draw [[],[],[],[],[3],[],[5],[2,0],[7,6,3,1,0],[],[],[],[0]] [.false,.false,.false,.false,.false,.false,.false,.false,.false,.true,.false,.false,.false] [(.op (.some (po 19)) .none (.load .false 1 (.s (po 4)))),(.op (.some (po 20)) .none (.load .false 1 (.s (po 1)))),(.op (.some (po 21)) .none (.mv (.s (po 6)))),(.op (.some (po 22)) .none (.mv (.s (po 7)))),(.op (.some (po 23)) .none (.call (.k (.fn 24 [] [])) [(.s (po 20)),(.s (po 21)),(.s (po 22))])),(.op (.some (po 24)) .none (.mv (.s (po 6)))),(.op (.some (po 25)) .none (.call (.k (.fn 31 [] [])) [(.s (po 23)),(.k (.int .i64 0)),(.s (po 24))])),(.op (.some (po 26)) .none (.len .slice (.s (po 19)))),(.op (.some (po 27)) .none (.bsl 6 [(.k (.agg [(.int .i64 0),(.int .i64 0),(.bool .false),(.str []),.nils,.nils]))])),(.op (.some (po 28)) .none (.app 6 88 (.s (po 19)) (.s (po 27)))),(.op (.some (po 29)) .none (.iaddr 6 (.s (po 28)) (.s (po 26)))),(.op .none .none (.store .true 6 (.s (po 29)) (.s (po 25)))),(.op .none .none (.store .false 1 (.s (po 4)) (.s (po 28))))])))
noncomputable def eT (n f:Nat):Tr:=putT (po 14) (.fn 60 [] [.ptr (n+8) 0 0]) (putT (po 13) (.ptr f 0 0) (putT (po 5) (.ptr (n+4) 0 0) (putT (po 4) (.ptr (n+3) 0 0) (putT (po 3) (.bool false) (putT (po 2) (.ptr (n+1) 0 0) (putT (po 1) (.ptr n 0 0) (putT (po 0) (.ptr f 0 0) .lf)))))))
theorem aT_run {n f k q m:Nat} {g:Hps}:LX (cF Try.prog) aT (putT (po 16) (.ptr q 0 0) (putT (po 15) (.int .i64 (k:Nat)) (eT n f))) m g = .ok .normal (putT (po 7) (.ptr q 0 0) (putT (po 6) (.int .i64 (k:Nat)) (putT (po 16) (.ptr q 0 0) (putT (po 15) (.int .i64 (k:Nat)) (eT n f))))) (m+2) g:=by
  unfold aT eT
  simp (disch:=first|assumption|omega|(simp (disch:=first|assumption|omega) only [sB,reduceAdd,reduceLT,reduceLeDiff,reduceEqDiff,reduceMul,↓reduceIte];done)|fail) only [sA,↓reduceIte,reduceLT,reduceEqDiff,reduceAdd,reduceLeDiff]
set_option maxHeartbeats 16000000 in
theorem bT_run {F:Fa} {f r n k q m A:Nat} {l:List Tm} {V W:Sl Tm} {rs:List Nat} {MT:Tm} {h g:Hps} (hn:f < n∧r < n) (hk:k≤1000) (hl:l.length≤1000) (X:Fat F f r n h) (T:TS h n f l m g) (M:Mat V rs (slD 6 encT W) q m g) (hq:n+14≤q) (hs:Sm MT)
    (hc:∀ m' g',Gd m' g'→Fat F f r m' g'→Mat V rs (slD 6 encT W) q m' g'→callFn (LX (cF Try.prog)) m' g' [.ptr f 0 0,.int .i64 (k:Nat),.ptr q 0 0] (cF Try.prog 24) = .ok (encT MT) m' g') :
    ∃ e2 n2 g2,LX (cF Try.prog) bT (putT (po 7) (.ptr q 0 0) (putT (po 6) (.int .i64 (k:Nat)) (putT (po 16) (.ptr q 0 0) (putT (po 15) (.int .i64 (k:Nat)) (eT n f))))) (m+2) g = .ok .normal e2 n2 g2∧m≤n2∧TS h n f (l++[liftT 0 (k:Nat) MT]) n2 g2:=by
  have X1:Fat F f r m g:=⟨by have:=T.le; omega,by have:=T.le; omega,by rw [T.keep f hn.1]; exact X.box,by rw [T.keep r hn.2]; exact X.row⟩
  have hle:=T.le
  have y1:=T.y1
  obtain ⟨d,y3,yR⟩:=T.y3
  have eqp:∀ m g,obR m g false (eqD .ptr (.ptr q 0 0) .nilp) = .ok (.bool false) m g:=fun _ _=>rfl
  obtain ⟨g1,S,s1,s2,s3,s4,s5⟩:=sub_mth (call:=callX (cF Try.prog) (LX (cF Try.prog))) (k:=24) (x := (k:Nat)) (t:=MT) (m:=m+4398046511108) T.gd X1 M (by omega) (fun g' a1 a2 a3=>by
    rw [callX_fn]
    exact hc _ g' (fun k hk=>a1 k (by omega)) (a2.up (by omega)) ⟨by have:=a3.ql; omega,a3.box⟩)
  have cS:∀ y,y∈S → (y=f∨y=r) ∨ (q≤y∧y < m):=fun y hy=>by
    rcases s5 y hy with e | e | ⟨e1,e2,_⟩
    · exact .inl (.inl e)
    · exact .inl (.inr e)
    · exact .inr ⟨e1,e2⟩
  have mS:∀ x,m≤x→memN x S=false:=fun x hx=>by
    cases hb:memN x S with
    | false=>rfl
    | true =>
      have:=cS x (memN_true hb)
      have:=T.le
      omega
  have dS:∀ x,n≤x→x < q→disj S [x]=true:=fun x h1 h2 => (disj_eq _ _).2 (fun y hy hy2=>by
    have e:=List.mem_singleton.1 hy2
    have:=cS y hy
    omega)
  have hG1:∀ k,m≤k→Gd k g1:=fun k hk j hj=>s3 j (by omega)
  have hky:∀ k,m≤k→keysFrom k g1=[]:=fun k hk=>keys_low (s3 k hk)
  have eS:appN S []=S:=by rw [appN_eq,List.append_nil]
  rw [s4] at s1
  have c2:∀ m h,Gd m h→callFn (LX (cF Try.prog)) m h [(D.agg [.int .i64 (MT).form,.int .i64 (MT).n,.bool (MT).hid,.str (MT).name,slD 2 encL (MT).levels,slD 6 encT (MT).kids]),.int .i64 0,.int .i64 (k:Nat)] (cF Try.prog 31) = .ok (encT (liftT 0 (k:Nat) MT)) m h:=fun m h hg=>pLift' m h hg MT 0 _ (by omega) (by omega) hs
  generalize hY:liftT 0 (k:Nat) MT=Y at c2 ⊢
  rw [encT_eq] at s1 c2
  have y1':getO g1 n = .row 1 [.ptr f 0 0]:=by rw [s2]; exact y1
  have y3':getO g1 (n+3) = .row 1 [d]:=by rw [s2]; exact y3
  have b1:∀ m g,bslD m g 6 [(D.agg [.int .i64 0,.int .i64 0,.bool false,.str [],.nils,.nils])] = .ok (.sl 6 [(D.agg [.int .i64 0,.int .i64 0,.bool false,.str [],.nils,.nils])] [] true) m g:=fun m g=>bsl_one rfl
  unfold bT eT
  rcases yR with ⟨rfl,rfl⟩ | ⟨rr,rfl,hne,hrr,yr⟩
  · have a1:∀ m g,appD m g 6 88 .nils (.ok 6 [(D.agg [.int .i64 0,.int .i64 0,.bool false,.str [],.nils,.nils])]) = .ok (.ms 6 m 0 1 false) m ((m,.row 6 [(D.agg [.int .i64 0,.int .i64 0,.bool false,.str [],.nils,.nils])])::g):=fun m g=>appD_nils (xt:=[]) (by decide)
    have ia:∀ m r g,iaddrD m g 6 (.ms 6 r 0 1 false) 0 = .ok (.ptr r 0 0) m g:=fun _ _ _=>rfl
    simp (disch:=first|assumption|omega|(simp (disch:=first|assumption|omega) only [sB,reduceAdd,reduceLT,reduceLeDiff,reduceEqDiff,reduceMul,↓reduceIte,gd_nil,hG1,getO_tl];done)|fail) only [sA,↓reduceIte,reduceLT,reduceEqDiff,reduceAdd,reduceLeDiff,y1,y3,eqp,s1,s4,c2,eS,mS,dS,hky,y1',y3',b1,a1,ia,apartR_cons,apartC_cons,gd_nil,hG1,getO_tl]
    refine ⟨_,_,_,rfl,?_,?_⟩
    · omega
    rw [← encT_eq Y]
    exact T.one (m2:=m+14293651161092) (b:=m+9895604649988) s2 hG1 (by omega) (by omega)
  · have hrm:rr < m:=getO_low (T.gd m (Nat.le_refl _)) (by rw [yr]; simp)
    have nS:rr ∉ S:=fun hin=>by
      rcases s5 rr hin with e | e | ⟨_,_,ll,e | e⟩
      · omega
      · omega
      · rw [yr] at e; injection e with e _; cases e
      · subst e
        obtain ⟨dR,m1,_⟩:=M.box
        rw [yr] at m1; injection m1 with m1 _; cases m1
    have mSr:memN rr S=false:=by
      cases hb:memN rr S with
      | false=>rfl
      | true=>exact absurd (memN_true hb) nS
    have yr':getO g1 rr = .row 6 (l.map encT):=by rw [s2]; exact yr
    have a1:∀ m,appD m g1 6 88 (.ms 6 rr 0 l.length false) (.ok 6 [(D.agg [.int .i64 0,.int .i64 0,.bool false,.str [],.nils,.nils])]) = .ok (.ms 6 m 0 (l.length+1) false) m ((m,.row 6 (l.map encT++[(D.agg [.int .i64 0,.int .i64 0,.bool false,.str [],.nils,.nils])]))::delO g1 rr):=fun m=>by
      have:=appD_ms (n:=m) (h:=g1) (b:=88) (q:=6) (r:=rr) (m:=l.length) (es:=l.map encT) (xs:=[(D.agg [.int .i64 0,.int .i64 0,.bool false,.str [],.nils,.nils])]) (x := (D.agg [.int .i64 0,.int .i64 0,.bool false,.str [],.nils,.nils])) (xt:=[]) rfl yr' (by rw [List.length_map]) (by rw [List.length_map]; simp; omega)
      rw [List.length_map] at this
      exact this
    have ia:∀ m r g,natR (iaddrD m g 6 (.ms 6 r 0 (l.length+1) false)) (.int .i64 (l.length:Nat)) = .ok (.ptr r l.length 0) m g:=fun m r g=>by
      show ifR (Bool.and (Nat.blt l.length (l.length+1)) (Nat.beq 6 6)) (.ok (.ptr r (0+l.length) 0) m g)=_
      rw [blt_iff,decide_eq_true (by omega),Nat.zero_add]; rfl
    have y1'':getO (delO g1 rr) n = .row 1 [.ptr f 0 0]:=by rw [getO_delO,if_neg (by omega)]; exact y1'
    have y3'':getO (delO g1 rr) (n+3) = .row 1 [.ms 6 rr 0 l.length false]:=by rw [getO_delO,if_neg (by omega)]; exact y3'
    simp (disch:=first|assumption|omega|(simp (disch:=first|assumption|omega) only [sB,reduceAdd,reduceLT,reduceLeDiff,reduceEqDiff,reduceMul,↓reduceIte,gd_nil,hG1,getO_tl];done)|fail) only [sA,↓reduceIte,reduceLT,reduceEqDiff,reduceAdd,reduceLeDiff,y1,y3,eqp,s1,s4,c2,eS,mS,mSr,dS,hky,y1',y3',y1'',y3'',b1,a1,ia,st_all,apartR_cons,apartC_cons,gd_nil,hG1,getO_tl]
    refine ⟨_,_,_,rfl,?_,?_⟩
    · omega
    exact T.more (m2:=m+14293651161092) (b:=m+9895604649988) s2 hG1 (by omega) (by omega) hrr
end Go.Proofs.Ytpbpmpabndgeeaa
set_option linter.unusedSimpArgs false
set_option linter.unusedVariables false
namespace Go.Proofs.Ytpbpmpabndgeeaa
open Go
open Nat (reduceAdd reduceLT reduceLeDiff reduceEqDiff reduceMul)

theorem lowO_loop {m k:Nat} {env:Tr} {ps:List Po} {a b:DCode} {j:Jp} (hm:k≤m):lowO m (.loop k env ps a b j):=by
  show Nat.blt m k=false
  rw [blt_iff,decide_eq_false (by omega)]
structure TLp (h:Hps) (n f:Nat) (l:List Tm) (m:Nat) (g:Hps):Prop where
  lp:getO g (n+13) = .loop (n+13) (eT n f) [po 15,po 16] aT bT .none
  gd:Gd m g
  ts:TS h n f l m (delO g (n+13))
theorem TLp.get {h:Hps} {n f x:Nat} {l:List Tm} {m:Nat} {g:Hps} (T:TLp h n f l m g) (hx:x < n):getO g x=getO h x:=by
  have:=T.ts.keep x hx
  rw [getO_delO,if_neg (by omega)] at this
  exact this
theorem TLp.fat {F:Fa} {h:Hps} {n f r:Nat} {l:List Tm} {m:Nat} {g:Hps} (T:TLp h n f l m g) (X:Fat F f r n h):Fat F f r m g:=by
  have h1:=X.fl
  have h2:=X.rl
  have h3:=T.ts.le
  exact ⟨by omega,by omega,by rw [T.get h1]; exact X.box,by rw [T.get h2]; exact X.row⟩
theorem TLp.hp {h:Hps} {n f:Nat} {l:List Tm} {m m':Nat} {g g':Hps} (T:TLp h n f l m g) (H:Hp m g m' g'):TLp h n f l m' g':=by
  have h3:=T.ts.le
  refine ⟨by rw [H.get (by omega)]; exact T.lp,fun k hk=>H.good k hk,T.ts.get H.le (fun k hk=>good_del (H.good k hk)) (fun x hx hx2=>?_)⟩
  rw [getO_delO,getO_delO,if_neg hx2,if_neg hx2,H.get hx]
def methsT (MT:Nat→Tm) (k:Nat):List Tm := (List.range k).map fun (i:Nat)=>liftT 0 (i:Nat) (MT i)
theorem methsT_succ {MT:Nat→Tm} {k:Nat}:methsT MT (k+1)=methsT MT k++[liftT 0 (k:Nat) (MT k)]:=by
  unfold methsT; rw [List.range_succ,List.map_append]; rfl
theorem methsT_len {MT:Nat→Tm} {k:Nat} : (methsT MT k).length=k:=by simp [methsT]
theorem TLp.round {F:Fa} {f r n k q m A:Nat} {V W:Sl Tm} {rs:List Nat} {MT:Nat→Tm} {h g:Hps} (hk:k≤999) (X:Fat F f r n h) (T:TLp h n f (methsT MT k) m g) (M:Mat V rs (slD 6 encT W) q m g) (hq:n+14≤q) (hs:Sm (MT k))
    (hc:∀ m' g',Gd m' g'→Fat F f r m' g'→Mat V rs (slD 6 encT W) q m' g'→callFn (LX (cF Try.prog)) m' g' [.ptr f 0 0,.int .i64 (k:Nat),.ptr q 0 0] (cF Try.prog 24) = .ok (encT (MT k)) m' g') :
    ∃ m' g',callX (cF Try.prog) (LX (cF Try.prog)) m g (.yld (n+13)) [.int .i64 (k:Nat),.ptr q 0 0] = .ok (.bool true) m' g'∧m≤m'∧TLp h n f (methsT MT (k+1)) m' g':=by
  have h1:=X.fl
  have h2:=X.rl
  have h3:=T.ts.le
  have M1:Mat V rs (slD 6 encT W) q m (delO g (n+13)):=by
    obtain ⟨dR,b1,b2⟩:=M.box
    refine ⟨M.ql,dR,by rw [getO_delO,if_neg (by omega)]; exact b1,b2.keep fun y e=>?_⟩
    rw [getO_delO,if_neg]
    rintro rfl
    rcases b2 with ⟨_,e2⟩ | ⟨p,p1,_,e2,g⟩
    · rw [e2] at e; cases e
    · rw [e2] at e; injection e with _ e _ _ _
      omega
  obtain ⟨e2,n2,g2,c1,l1,T2⟩:=bT_run (A:=A) ⟨h1,h2⟩ (by omega) (by rw [methsT_len]; omega) X T.ts M1 hq hs hc
  rw [← methsT_succ] at T2
  have h4:=T2.le
  refine ⟨n2,(n+13,.loop (n+13) (eT n f) [po 15,po 16] aT bT .none)::g2,?_,by omega,?_⟩
  · rw [round_run2 T.lp (aT_run (n:=n) (f:=f) (k:=k) (q:=q) (m:=m)) c1]
    rfl
  · refine ⟨getO_hd,fun k hk=>good_cons.2 ⟨by omega,lowO_loop (by omega),T2.gd k hk⟩,T2.get (Nat.le_refl _) (fun k hk=>good_del (good_cons.2 ⟨by omega,lowO_loop (by omega),T2.gd k hk⟩)) (fun x hx hx2=>?_)⟩
    rw [getO_delO,if_neg hx2,getO_tl (fun e=>hx2 e.symm)]
set_option maxHeartbeats 16000000 in
theorem pTypeL {F:Fa} {f r n A:Nat} {ty t:Tm} {l:List Tm} {W:Sl Tm} {R:Nat→Bool} {MT:Nat→Tm} {h:Hps} (hg:Gd n h) (X:Fat F f r n h)
    (hM:∀ k,k < F.cs.length→∃ nm,Mkr F f r k A nm ty l t (slD 6 encT W) R) (hC:1≤F.cs.length∧F.cs.length≤999) (hs:∀ k,k < F.cs.length→Sm (MT k))
    (hc:∀ k,k < F.cs.length→∀ m' g' q,Gd m' g'→Fat F f r m' g'→Mat ((Sl.app l).cut F.Ps.el.length l.length) (recs R A) (slD 6 encT W) q m' g'→callFn (LX (cF Try.prog)) m' g' [.ptr f 0 0,.int .i64 (k:Nat),.ptr q 0 0] (cF Try.prog 24) = .ok (encT (MT k)) m' g')
    {r0:Re} (hr0:rngF (cF Try.prog) (LX (cF Try.prog)) (eT n f) (n+13) ((n+8,.row 1 [.ptr f 0 0]) :: (n+4,.row 1 [.bool true]) :: (n+3,.row 1 [.nils]) :: (n+1,(Ob.row 6 [.agg [.int .i64 0,.int .i64 0,.bool false,.str [],.nils,.nils]])) :: (n,.row 1 [.ptr f 0 0])::h) [po 15,po 16] aT bT (.fn 60 [] [.ptr (n+8) 0 0])=r0) :
    ∃ m g,r0 = .ok .normal (eT n f) m g∧TS h n f (methsT MT F.cs.length) m g:=by
  have h1:=X.fl
  have h2:=X.rl
  have lo:∀ {a b:Nat},a < b→low b (.ptr a 0 0):=fun hb=>ble_f hb
  have G0:Gd (n+14) ((n+8,.row 1 [.ptr f 0 0]) :: (n+4,.row 1 [.bool true]) :: (n+3,.row 1 [.nils]) :: (n+1,(Ob.row 6 [.agg [.int .i64 0,.int .i64 0,.bool false,.str [],.nils,.nils]])) :: (n,.row 1 [.ptr f 0 0])::h):=fun k hk =>
    good_cons.2 ⟨by omega,lowO_one (lo (by omega)),good_cons.2 ⟨by omega,lowO_one rfl,good_cons.2 ⟨by omega,lowO_one rfl,good_cons.2 ⟨by omega,lowO_one rfl,good_cons.2 ⟨by omega,lowO_one (lo (by omega)),hg k (by omega)⟩⟩⟩⟩⟩
  have T0:TS h n f (methsT MT 0) (n+14) ((n+8,.row 1 [.ptr f 0 0]) :: (n+4,.row 1 [.bool true]) :: (n+3,.row 1 [.nils]) :: (n+1,(Ob.row 6 [.agg [.int .i64 0,.int .i64 0,.bool false,.str [],.nils,.nils]])) :: (n,.row 1 [.ptr f 0 0])::h):=by
    refine ⟨Nat.le_refl _,G0,fun x hx=>?_,?_,?_,⟨.nils,?_,.inl ⟨rfl,rfl⟩⟩,?_,?_⟩
    · rw [getO_tl (by omega),getO_tl (by omega),getO_tl (by omega),getO_tl (by omega),getO_tl (by omega)]
    · rw [getO_tl (by omega),getO_tl (by omega),getO_tl (by omega),getO_tl (by omega),getO_hd]
    · rw [getO_tl (by omega),getO_tl (by omega),getO_tl (by omega),getO_hd]
    · rw [getO_tl (by omega),getO_tl (by omega),getO_hd]
    · rw [getO_tl (by omega),getO_hd]
    · rw [getO_hd]
  generalize ((n+8,Ob.row 1 [.ptr f 0 0]) :: (n+4,Ob.row 1 [.bool true]) :: (n+3,Ob.row 1 [.nils]) :: (n+1,(Ob.row 6 [.agg [.int .i64 0,.int .i64 0,.bool false,.str [],.nils,.nils]])) :: (n,Ob.row 1 [.ptr f 0 0])::h)=B at hr0 G0 T0
  have L0:TLp h n f (methsT MT 0) (n+14) ((n+13,.loop (n+13) (eT n f) [po 15,po 16] aT bT .none)::B):=by
    refine ⟨getO_hd,fun k hk=>good_cons.2 ⟨by omega,lowO_loop (by omega),G0 k hk⟩,T0.get (Nat.le_refl _) (fun k hk=>good_del (good_cons.2 ⟨by omega,lowO_loop (by omega),G0 k hk⟩)) (fun x hx hx2=>?_)⟩
    rw [getO_delO,if_neg hx2,getO_tl (fun e=>hx2 e.symm)]
  obtain ⟨m',g',c1,T1⟩:=pMakers1 (F:=F) (f:=f) (r:=r) (A:=A) (L:=n+13) (bm:=n+8) (m0:=n+14) (ty:=ty) (t:=t) (l:=l) (W:=W) (R:=R) (g0 := (n+13,.loop (n+13) (eT n f) [po 15,po 16] aT bT .none)::B) (T:=fun k m g=>TLp h n f (methsT MT k) m g) hM (by omega)
    (fun k m g T=>⟨T.ts.le,T.gd,T.fat X,by have:=T.ts.y8; rw [getO_delO,if_neg (by omega)] at this; exact this⟩)
    (fun k m g m' g' T H=>T.hp H)
    (fun k hk m g q T hq M=>T.round (A:=A) (by omega) X M hq (hs k hk) (fun m' g'=>hc k hk m' g' q))
    (fun m g T=>by
      obtain ⟨d,y1,y2⟩:=T.ts.y3
      rw [getO_delO,if_neg (by omega)] at y1
      rcases y2 with ⟨e,_⟩ | ⟨rr,rfl,_,e2,_⟩
      · have:=congrArg List.length e
        rw [methsT_len] at this
        exact absurd this (by show ¬ F.cs.length=0; omega)
      · refine leak_at (s:=n+3) (by omega) y1 ?_
        have e:hasR (n+14) 20 (.ms 6 rr 0 (methsT MT F.cs.length).length false)=true:=by
          show Nat.ble (n+14) rr=true
          rw [ble_iff,decide_eq_true (by omega)]
        show Bool.not (allL (fun d=>Bool.not (hasR (n+14) 20 d)) [.ms 6 rr 0 (methsT MT F.cs.length).length false])=true
        rw [allL_eq,List.all_cons,List.all_nil,e]; rfl) L0
  refine ⟨m',delO g' (n+13),?_,T1.ts⟩
  rw [← hr0]
  show rngK (eT n f) (n+13) (callFn (LX (cF Try.prog)) (n+14) ((n+13,.loop (n+13) (eT n f) [po 15,po 16] aT bT .none)::B) [.yld (n+13),.ptr (n+8) 0 0] ((cF Try.prog) 60))=_
  rw [c1]
  show afterRng _ _ _ _ (getO g' (n+13))=_
  rw [T1.lp]
  rfl
end Go.Proofs.Ytpbpmpabndgeeaa
