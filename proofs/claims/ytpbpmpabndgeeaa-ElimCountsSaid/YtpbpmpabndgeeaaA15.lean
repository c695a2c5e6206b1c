/- Each operation, run. Thirteenth part: all of them together. No condition. -/
import Derived.Test.YtpbpmpabndgeeaaA14
set_option linter.unusedSimpArgs false
set_option linter.unusedVariables false
namespace Go.Proofs.Ytpbpmpabndgeeaa
open Go

section
variable {P:Program} {RC:Nat→Code→DCode→Prop} {Fb:Nat→Prop} {β:Nat→Bk} {U:Us} {N:Nat} {h:Hps} {w:World}

theorem OpOk.val {r:Result Next} {v:Value} {w':World} {β':Nat→Bk} {d:D} {h':Hps} (hr:r = .ok (.value v) w') (hv:Rep w' (Mk β' Fb h') β' (Ad U N) v d) (I:Inv RC β' (Ad U N) Fb h' w') (A:Adv β U h w β' (Ad U N) h' w') {q:Prop} (hq:q):OpOk P RC Fb β U N h w r d h' q :=
  .inr ⟨hq,v,w',β',.inl hr,hv,I,A⟩
theorem run_v {s:Sem Value} {v:Value} {w':World} (hs:s.run P w = .ok v w') : (do pure (.value (← s)):Sem Next).run P w = .ok (.value v) w':=by rw [Sem.run_bind,hs]; rfl
theorem run_u {s:Sem Unit} {w':World} (hs:s.run P w = .ok () w') : (do s; pure .skip:Sem Next).run P w = .ok .skip w':=by rw [Sem.run_bind,hs]; rfl
theorem cT_ok {t:TypeId} {f:Bool→TypeInfo→DOp} {e:Tr} {d:D} {n':Nat} {h':Hps} (hd:opD e N h (cT P t f) = .ok d n' h'):∃ i dd,P.info? t=some i∧P.underlying t=some dd∧opD e N h (f (aggD dd) i) = .ok d n' h':=by
  unfold cT at hd
  split at hd
  · rename_i i hi
    split at hd
    · rename_i dd hu; exact ⟨i,dd,hi,hu,hd⟩
    · cases hd
  · cases hd
theorem part_ok {M:Nat→Prop} {t:TypeId} {i:TypeInfo} {dd:TypeDesc} (hi:P.info? t=some i) (hu:P.underlying t=some dd) {vs:Array Value} {cs:List D} {off:Nat} {d:D} (hx:Rep w M β U (.agg vs) (.agg cs))
    (hd:subA (aggD dd) i.size off cs=d) (hj:d ≠ .junk):∃ v,(part t vs off).run P w = .ok v w∧Rep w M β U v d:=by
  cases hx with
  | agg _ _ hl ho hr =>
    unfold part
    rw [Sem.run_bind,run_isAgg hu,Result.andThen_ok]
    cases hag:aggD dd with
    | true =>
      rw [hag] at hd
      obtain ⟨cs',h1,h2,h3,h4⟩:=sub_ag (e := .agg cs) hd hj
      cases h1
      have hlen : (vs.extract off (off+i.size)).size = ((cs.drop off).take i.size).length:=by
        simp only [Array.size_extract,List.length_take,List.length_drop,hl]
        omega
      have hget:∀ x,x < ((cs.drop off).take i.size).length → (vs.extract off (off+i.size)).getD x undef=vs.getD (off+x) undef ∧ ((cs.drop off).take i.size).getD x .junk=cs.getD (off+x) .junk∧off+x < cs.length:=by
        intro x hx
        simp only [List.length_take,List.length_drop] at hx
        refine ⟨?_,getD_dt (by omega),by omega⟩
        rw [Array.getD_eq_getD_getElem?,Array.getD_eq_getD_getElem?,Array.getElem?_extract,if_pos (by omega)]
      refine ⟨.agg (vs.extract off (off+i.size)),?_,?_⟩
      · simp only [if_true,Sem.run_bind,run_sizeOf hi,Result.andThen_ok,Sem.run_pure]
      · rw [h3]
        refine .agg _ _ hlen (fun x hx=>?_) (fun x hx=>?_)
        · obtain ⟨g1,_,g3⟩:=hget x hx
          rw [g1]; exact ho _ g3
        · obtain ⟨g1,g2,g3⟩:=hget x hx
          rw [g1,g2]; exact hr _ g3
    | false =>
      rw [hag] at hd
      obtain ⟨h1,h2⟩:=sub_one (k:=i.size) (e := .agg cs) hd hj
      replace h1:off < cs.length:=h1
      refine ⟨vs.getD off undef,?_,?_⟩
      · simp [Array.getD,hl,h1]
      · rw [← h2]; exact hr off h1
theorem run_sure (a:Addr) : (Instr.sureAddr (.pointer (some a))).run P w = .ok a w:=rfl

section
variable {a:Act} {env:Tr} {mm:Nat} {d:D} {n':Nat} {h':Hps}

theorem cBin_ok (I:Inv RC β U Fb h w) (E:EnvOk w (Mk β Fb h) β U a.tmps env) (hm:mm≤a.tmps.size) {op:BinOp} {t:TypeId} {x y:Operand} (hd:opD env N h (cBin P mm op t x y) = .ok d n' h') :
    ∃ v,((do eqGuard op t x y (a.eval x) (a.eval y); binOp op t (a.eval x) (a.eval y):Sem Value).run P w) = .ok v w∧Rep w (Mk β Fb h) β U v d∧h'=h:=by
  have bin:∀ op,opD env N h (.bin op (cO mm x) (cO mm y)) = .ok d n' h'→∃ v,((do eqGuard op t x y (a.eval x) (a.eval y); binOp op t (a.eval x) (a.eval y):Sem Value).run P w) = .ok v w∧Rep w (Mk β Fb h) β U v d∧h'=h:=by
    intro op hd
    obtain ⟨h1,rfl,rfl,h2⟩:=okD_inv (show okD N h (binD op (ev env (cO mm x)) (ev env (cO mm y))) = .ok d n' h' from hd)
    obtain ⟨v,h3,h4,h5⟩:=binD_ok (P:=P) (w:=w) (t:=t) (ev_ok E hm x) (ev_ok E hm y) h1 h2
    exact ⟨v,by rw [Sem.run_bind,h5,Result.andThen_ok,h3],h4 _ _ _,rfl⟩
  have eq:∀ neg op,(op=if neg then BinOp.neq else .eql)→opD env N h (cEq P mm neg op t x y) = .ok d n' h'→∃ v,((do eqGuard op t x y (a.eval x) (a.eval y); binOp op t (a.eval x) (a.eval y):Sem Value).run P w) = .ok v w∧Rep w (Mk β Fb h) β U v d∧h'=h:=by
    intro neg op hop hd
    have fin:∀ {ek:EK} {dd:TypeDesc},P.underlying t=some dd → ((plainK ek=true∧ekS dd=some ek)∨∃ fs l,dd = .struct fs∧ek = .struct l∧ekL P fs.toList=some l∧rowed fs.toList 0=true∧P.stoodInHeld t=false∧P.eqGuardType P.depth t=false) →
        opD env N h (.cmp neg ek (cO mm x) (cO mm y)) = .ok d n' h'→∃ v,((do eqGuard op t x y (a.eval x) (a.eval y); binOp op t (a.eval x) (a.eval y):Sem Value).run P w) = .ok v w∧Rep w (Mk β Fb h) β U v d∧h'=h:=by
      intro ek dd hu hk hd
      obtain ⟨b,h1,h2,rfl,rfl⟩:=cmp_ok (P:=P) hop hu hk (ev_ok E hm x) (ev_ok E hm y) (show obR N h neg (eqD ek (ev env (cO mm x)) (ev env (cO mm y))) = .ok d n' h' from hd)
      exact ⟨.bool b,by rw [Sem.run_bind,h2,Result.andThen_ok,h1],.bool,rfl⟩
    unfold cEq at hd
    split at hd
    · exact bin op hd
    · exact bin op hd
    · rename_i fs hu
      split at hd
      · rename_i l hl
        split at hd
        · rename_i hc
          simp only [Bool.and_eq_true,Bool.not_eq_true'] at hc
          exact fin hu (.inr ⟨fs,l,rfl,rfl,hl,hc.1.1,hc.1.2,hc.2⟩) hd
        · cases hd
      · cases hd
    · rename_i dd hn1 hn2 hn3 hu
      split at hd
      · rename_i k hk
        refine fin hu (.inl ⟨?_,hk⟩) hd
        cases dd <;> first | (cases hk; done) | (cases hk; rfl) | skip
        · exact absurd rfl (hn1 _)
        · exact absurd rfl hn2
      · cases hd
    · cases hd
  cases op with
  | eql=>exact eq false .eql rfl hd
  | neq=>exact eq true .neq rfl hd
  | _=>exact bin _ hd

theorem map1 {α β:Type} (f:α→β) (x:Array α) {l:List α} (hx:x.toList=l):x.map f = (l.map f).toArray:=by
  subst hx; apply Array.toList_inj.1; simp
end

theorem run_call_b {b:Builtin} {a:Act} {c:Call} {ty:TypeId} (hc:c.callee = .builtin b) :
    ((do let d ← resolve a.eval c ty; invoke d.target d.args:Sem Next).run P w) = (builtin b c.argTypes ty (c.args.map fun | .const _=>true | _=>false) (c.args.map a.eval)).run P w:=by
  simp only [resolve,hc,Sem.run_bind,Sem.run_pure,Result.andThen_ok,invoke]
  rfl


section
variable {a:Act} {env:Tr} {mm:Nat} {d:D} {n':Nat} {h':Hps}

theorem builtin_ok (I:Inv RC β U Fb h w) (E:EnvOk w (Mk β Fb h) β U a.tmps env) (hm:mm≤a.tmps.size) {c:Call} (hN : (match c.callee with | .builtin .append=>true | .builtin .delete=>true | _=>false)=true→¬ U N) {ty:TypeId} {b:Builtin} (hc:c.callee = .builtin b) (hd:opD env N h (cCall P mm c) = .ok d n' h') :
    OpOk P RC Fb β U N h w ((do let d ← resolve a.eval c ty; invoke d.target d.args:Sem Next).run P w) d h' ((match c.callee with | .builtin .append=>true | .builtin .delete=>true | _=>false)=true):=by
  rw [run_call_b hc]
  unfold cCall at hd
  rw [hc] at hd
  cases b with
  | len =>
    replace hd:opD env N h (cLen P mm c.argTypes c.args) = .ok d n' h':=hd
    unfold cLen at hd
    split at hd
    · rename_i t x e1 e2
      have e1:c.argTypes = #[t]:=Array.toList_inj.1 e1
      have e2:c.args = #[x]:=Array.toList_inj.1 e2
      have key:∀ {dd ek},P.underlying t=some dd → ((dd = .string∧ek = .str) ∨ (∃ e,dd = .slice e∧ek = .slice)∨∃ a b,dd = .map a b∧ek = .map)→lenD N h ek (ev env (cO mm x)) = .ok d n' h'→OpOk P RC Fb β U N h w ((builtin .len c.argTypes ty (c.args.map fun | .const _=>true | _=>false) (c.args.map a.eval)).run P w) d h' ((match c.callee with | .builtin .append=>true | .builtin .delete=>true | _=>false)=true):=by
        intro dd ek hu hk hl
        obtain ⟨v,h1,h2,rfl⟩:=len_ok (P:=P) I hu hk (ev_ok E hm x) hl ty
        rw [e1,e2,show (#[x]:Array Operand).map a.eval = #[a.eval x] by simp]
        exact OpOk.still I (run_v h1) h2
      split at hd
      · rename_i hu; exact key hu (.inl ⟨rfl,rfl⟩) hd
      · rename_i e hu; exact key hu (.inr (.inl ⟨e,rfl,rfl⟩)) hd
      · rename_i k e hu; exact key hu (.inr (.inr ⟨k,e,rfl,rfl⟩)) hd
      · cases hd
    · cases hd
  | append =>
    replace hd:opD env N h (cApp P mm c.argTypes c.args) = .ok d n' h':=hd
    unfold cApp at hd
    split at hd
    · rename_i t u s x e1 e2
      split at hd
      · rename_i e hu
        split at hd
        · rename_i i hi
          split at hd
          · rename_i hcnd
            obtain ⟨h1,h2,h3,h4,h5⟩:=hcnd
            subst h1
            obtain ⟨z,hz⟩:=Option.isSome_iff_exists.1 h2
            rw [hz] at h3
            have e1:c.argTypes = #[t,t]:=Array.toList_inj.1 e1
            have e2:c.args = #[s,x]:=Array.toList_inj.1 e2
            obtain ⟨v,w',β',g1,g2,g3,g4⟩:=app_ok (P:=P) (ty:=ty) I (hN (by rw [hc])) hu hi hz (by simpa using h3) h4 h5 (ev_ok E hm s) (ev_ok E hm x) (show appD N h i.size i.bytes (ev env (cO mm s)) (view i.size h (ev env (cO mm x))) = .ok d n' h' from hd)
            rw [e1,e2,show (#[s,x]:Array Operand).map a.eval = #[a.eval s,a.eval x] by simp]
            exact OpOk.val (run_v g1) g2 g3 g4 (by rw [hc])
          · split at hd
            · rename_i hux
              split at hd
              · rename_i hcnd
                obtain ⟨h2,h3,h4,h5⟩:=hcnd
                obtain ⟨z,hz⟩:=Option.isSome_iff_exists.1 h2
                rw [hz] at h3
                have e1:c.argTypes = #[t,u]:=Array.toList_inj.1 e1
                have e2:c.args = #[s,x]:=Array.toList_inj.1 e2
                obtain ⟨v,w',β',g1,g2,g3,g4⟩:=apps_ok (P:=P) (ty:=ty) I (hN (by rw [hc])) hu hux hi hz (by simpa using h3) h4 h5 (ev_ok E hm s) (ev_ok E hm x) (show appsD N h (ev env (cO mm s)) (ev env (cO mm x)) = .ok d n' h' from hd)
                rw [e1,e2,show (#[s,x]:Array Operand).map a.eval = #[a.eval s,a.eval x] by simp]
                exact OpOk.val (run_v g1) g2 g3 g4 (by rw [hc])
              · cases hd
            · cases hd
        · cases hd
      · cases hd
    · cases hd
  | delete=>cases hd
  | max =>
    replace hd:opD env N h (cMM mm .max c.args) = .ok d n' h':=hd
    unfold cMM at hd
    split at hd
    · rename_i x y e2
      have e2:c.args = #[x,y]:=Array.toList_inj.1 e2
      obtain ⟨v,h1,h2,rfl⟩:=max_ok (P:=P) (ev_ok E hm x) (ev_ok E hm y) (show maxD N h (ev env (cO mm x)) (ev env (cO mm y)) = .ok d n' h' from hd) c.argTypes ty
      rw [e2,show (#[x,y]:Array Operand).map a.eval = #[a.eval x,a.eval y] by simp]
      exact OpOk.still I (run_v h1) h2
    · cases hd
  | min =>
    replace hd:opD env N h (cMM mm .min c.args) = .ok d n' h':=hd
    unfold cMM at hd
    split at hd
    · rename_i x y e2
      have e2:c.args = #[x,y]:=Array.toList_inj.1 e2
      obtain ⟨v,h1,h2,rfl⟩:=min_ok (P:=P) (ev_ok E hm x) (ev_ok E hm y) (show minD N h (ev env (cO mm x)) (ev env (cO mm y)) = .ok d n' h' from hd) c.argTypes ty
      rw [e2,show (#[x,y]:Array Operand).map a.eval = #[a.eval x,a.eval y] by simp]
      exact OpOk.still I (run_v h1) h2
    · cases hd
  | _=>cases hd

theorem opD_ok (I:Inv RC β U Fb h w) (E:EnvOk w (Mk β Fb h) β U a.tmps env) (hm:mm≤a.tmps.size) (o:Oper) (hN:newO P o=true→¬ U N) (hd:opD env N h (cOp P mm o) = .ok d n' h') :
    OpOk P RC Fb β U N h w ((execOp a.eval o).run P w) d h' (newO P o=true):=by
  obtain ⟨dst,op,ty,g,ps⟩:=o
  have still:∀ {q:Prop} {s:Sem Value},(∃ v,s.run P w = .ok v w∧Rep w (Mk β Fb h) β U v d∧h'=h)→OpOk P RC Fb β U N h w ((do pure (.value (← s)):Sem Next).run P w) d h' q:=by
    rintro q s ⟨v,h1,h2,rfl⟩
    exact OpOk.still I (run_v h1) h2
  have full:∀ {q:Prop} {s:Sem Value},q → (∃ v w' β',s.run P w = .ok v w'∧Rep w' (Mk β' Fb h') β' (Ad U N) v d∧Inv RC β' (Ad U N) Fb h' w'∧Adv β U h w β' (Ad U N) h' w')→OpOk P RC Fb β U N h w ((do pure (.value (← s)):Sem Next).run P w) d h' q:=by
    rintro q s hq ⟨v,w',β',h1,h2,h3,h4⟩
    exact OpOk.val (run_v h1) h2 h3 h4 hq
  have unit:∀ {q:Prop} {s:Sem Unit},q → (∃ w',s.run P w = .ok () w'∧d = .junk∧Inv RC β (Ad U N) Fb h' w'∧Adv β U h w β (Ad U N) h' w')→OpOk P RC Fb β U N h w ((do s; pure .skip:Sem Next).run P w) d h' q:=by
    rintro q s hq ⟨w',h1,rfl,h3,h4⟩
    exact .inr ⟨hq,undef,w',β,.inr ⟨run_u h1,rfl⟩,.junk,h3,h4⟩
  cases op with
  | move x=>cases hd; exact OpOk.still I rfl (ev_ok E hm x)
  | assign x=>cases hd; exact OpOk.still I rfl (ev_ok E hm x)
  | pick c x y =>
    obtain ⟨v,h1,h2,rfl⟩:=pick_ok (P:=P) (ev_ok E hm c) (ev_ok E hm x) (ev_ok E hm y) (show pickD N h (ev env (cO mm x)) (ev env (cO mm y)) (ev env (cO mm c)) = .ok d n' h' from hd)
    refine OpOk.still I ?_ h2
    show (do pure (.value (if ← asBool (a.eval c) then a.eval x else a.eval y)):Sem Next).run P w=_
    rw [Sem.run_bind,h1]
    rfl
  | alloc T =>
    replace hd:opD env N h (cNew P T) = .ok d n' h':=hd
    unfold cNew at hd
    split at hd
    · rename_i i hi
      split at hd
      · rename_i z hz
        obtain ⟨h1,h2,rfl,rfl,rfl⟩:=solid_of_box (show boxD N h (lenL (cells (ofV z))) (ofV z) = .ok d n' h' from hd)
        obtain ⟨w',β',h3,h4,h5,h6⟩:=box_ok (P:=P) (T:=T) I (hN rfl) (ofV_rep _ _ _ _ z) h1 h2
        refine full rfl ⟨_,w',β',?_,h4,h5,h6⟩
        show (Instr.alloc T true (.tuple #[])).run P w=_
        simp [Instr.alloc,zeroValue,typeInfo,run_program,hi,hz,h3]
      · cases hd
    · cases hd
  | box T x =>
    replace hd:opD env N h (cBox P mm T x) = .ok d n' h':=hd
    unfold cBox at hd
    split at hd
    · rename_i i hi
      obtain ⟨h1,h2,rfl,rfl,rfl⟩:=solid_of_box (show boxD N h i.size (ev env (cO mm x)) = .ok d n' h' from hd)
      obtain ⟨w',β',h3,h4,h5,h6⟩:=box_ok (P:=P) (T:=T) I (hN rfl) (ev_ok E hm x) h1 h2
      refine full rfl ⟨_,w',β',?_,h4,h5,h6⟩
      show (Instr.box T (a.eval x)).run P w=_
      simp [Instr.box,h3]
    · cases hd
  | build T parts =>
    replace hd:opD env N h (cBuild P mm T parts.toList) = .ok d n' h':=hd
    unfold cBuild at hd
    split at hd
    · rename_i i n e hi hu
      split at hd
      · rename_i j hj
        split at hd
        · rename_i z l hz hl
          split at hd
          · rename_i zs hzs
            replace hd:buildD N h (fillP env l (some zs)) = .ok d n' h':=hd
            cases hf:fillP env l (some zs) with
            | none=>rw [hf] at hd; cases hd
            | some l' =>
              rw [hf] at hd
              cases hd
              obtain ⟨v,h1,h2⟩:=build_arr_ok (P:=P) hu hi hj hz hzs E hm hl hf
              refine still ⟨v,?_,h2,rfl⟩
              show (Instr.build T (parts.map fun p => (p.1,a.eval p.2))).run P w=_
              rw [map1 _ parts rfl]
              exact h1
          · cases hd
        · cases hd
      · cases hd
    · rename_i i fs hi hu
      split at hd
      · rename_i z l hz hl
        split at hd
        · rename_i zs hzs
          split at hd
          · rename_i hall
            replace hd:buildD N h (fillP env l (some zs)) = .ok d n' h':=hd
            cases hf:fillP env l (some zs) with
            | none=>rw [hf] at hd; cases hd
            | some l' =>
              rw [hf] at hd
              cases hd
              obtain ⟨v,h1,h2⟩:=build_ok (P:=P) hu hi hz hzs (fun f hf=>List.all_eq_true.1 hall f hf) E hm hl hf
              refine still ⟨v,?_,h2,rfl⟩
              show (Instr.build T (parts.map fun p => (p.1,a.eval p.2))).run P w=_
              rw [map1 _ parts rfl]
              exact h1
          · cases hd
        · cases hd
      · cases hd
    · cases hd
  | buildSlice T len parts =>
    replace hd:opD env N h (cBsl P mm T len parts.toList) = .ok d n' h':=hd
    unfold cBsl at hd
    split at hd
    · rename_i e hu
      split at hd
      · rename_i i hi
        split at hd
        · rename_i hc
          obtain ⟨h1,h2,h3,h4⟩:=hc
          have:=bsl_ok (P:=P) I (hN rfl) hu hi h4 E hm h1 h2 (by unfold maxLen; exact Nat.le_of_lt_succ (Nat.lt_of_le_of_lt h3 (by omega))) (show bslD N h i.size (evs env (parts.toList.map fun p=>cO mm p.2)) = .ok d n' h' from hd)
          obtain ⟨v,w',β',g1,g2⟩:=this
          refine full rfl ⟨v,w',β',?_,g2⟩
          show (Instr.buildSlice T len (parts.map fun p => (p.1,a.eval p.2))).run P w=_
          rw [map1 _ parts rfl]
          exact g1
        · cases hd
      · cases hd
    · cases hd
  | load t x =>
    obtain ⟨i,dd,hi,hu,hl⟩:=cT_ok (show opD env N h (cT P t fun ag i => .load ag i.size (cO mm x)) = .ok d n' h' from hd)
    obtain ⟨b,v,h1,h2,h3,rfl⟩:=loadD_ok (P:=P) I hi hu (ev_ok E hm x) (show loadD (aggD dd) i.size N h (ev env (cO mm x)) = .ok d n' h' from hl)
    refine still ⟨v,?_,h3,rfl⟩
    show (Instr.loadAt t (a.eval x)).run P w=_
    unfold Instr.loadAt
    rw [h1,Sem.run_bind,run_sure,Result.andThen_ok,h2]
  | store t x y =>
    obtain ⟨i,dd,hi,hu,hl⟩:=cT_ok (show opD env N h (cT P t fun ag i=>if ag=false∧i.size≠1 then .bad else .store ag i.size (cO mm x) (cO mm y)) = .ok d n' h' from hd)
    split at hl
    · cases hl
    · rename_i hc
      obtain ⟨b,w',h1,h2,h3,h4,h5⟩:=storeD_ok (P:=P) I hi (fun e=>Decidable.byContradiction fun e2=>hc ⟨e,e2⟩) (ev_ok E hm x) (ev_ok E hm y) (show storeD (aggD dd) i.size (ev env (cO mm y)) N h (ev env (cO mm x)) = .ok d n' h' from hl)
      refine unit rfl ⟨w',?_,h3,h4,h5⟩
      show (Instr.storeAt t (a.eval x) (a.eval y)).run P w=_
      unfold Instr.storeAt
      rw [h1,Sem.run_bind,run_sure,Result.andThen_ok,h2]
  | binOp op t x y s=>exact still (cBin_ok I E hm hd)
  | unOp op t x =>
    cases op with
    | not=>exact still (not_ok (ev_ok E hm x) hd)
    | neg=>exact still (neg_ok (ev_ok E hm x) hd)
    | _=>cases hd
  | fieldAddr T x f =>
    replace hd:opD env N h (cFaddr P mm T x f) = .ok d n' h':=hd
    unfold cFaddr at hd
    split at hd
    · rename_i fs hu
      split at hd
      · rename_i fl hf
        split at hd
        · rename_i i hi
          split at hd
          · cases hd
          · rename_i hz; exact still (faddr_ok hu hf hi hz (ev_ok E hm x) hd)
        · cases hd
      · cases hd
    · cases hd
  | field T x f =>
    replace hd:opD env N h (cFld P mm T x f) = .ok d n' h':=hd
    unfold cFld at hd
    split at hd
    · rename_i fs hu
      split at hd
      · rename_i fl hf
        obtain ⟨i,dd,hi,hu2,hl⟩:=cT_ok hd
        have hx:=ev_ok E hm x
        replace hl:fldD N h (aggD dd) fl.offset i.size (ev env (cO mm x)) = .ok d n' h':=hl
        revert hl hx
        generalize ev env (cO mm x)=X
        intro hx hl
        cases X with
        | agg cs =>
          cases hv:a.eval x with
          | agg vs =>
            rw [hv] at hx
            obtain ⟨h1,rfl,rfl,h2⟩:=okD_inv (show okD N h (subA (aggD dd) i.size fl.offset cs) = .ok d n' h' from hl)
            have hp:∃ v,(part fl.type vs fl.offset).run P w = .ok v w∧Rep w (Mk β Fb h) β U v d:=part_ok hi hu2 hx h1 h2
            obtain ⟨v,h3,h4⟩:=hp
            refine still ⟨v,?_,h4,rfl⟩
            show (Instr.field T (a.eval x) f).run P w=_
            unfold Instr.field
            rw [hv]
            simp only [Sem.run_bind,run_underlying hu,Result.andThen_ok,hf,asAgg,Sem.run_pure,h3]
          | _=>rw [hv] at hx; cases hx
        | _=>cases hl
      · cases hd
    · cases hd
  | indexAddr T x i =>
    replace hd:opD env N h (cIaddr P mm T x i) = .ok d n' h':=hd
    unfold cIaddr at hd
    split at hd
    · rename_i e hu
      split at hd
      · rename_i j hi; exact still (iaddr_ok hu hi (ev_ok E hm x) (ev_ok E hm i) hd)
      · cases hd
    · rename_i n e hu
      split at hd
      · rename_i j hi; exact still (paddr_ok hu hi (ev_ok E hm x) (ev_ok E hm i) hd)
      · cases hd
    · cases hd
  | index T x i =>
    replace hd:opD env N h (match P.underlying T with | some .string => .sidx (cO mm x) (cO mm i) | some (.array n e)=>cT P e fun ag j => .aidx ag j.size n (cO mm x) (cO mm i) | _ => .bad) = .ok d n' h':=hd
    split at hd
    · rename_i hu; exact still (sidx_ok hu (ev_ok E hm x) (ev_ok E hm i) hd)
    · rename_i n e hu
      obtain ⟨ti,dd,hi,hu2,hl⟩:=cT_ok hd
      have hx:=ev_ok E hm x
      have hix:=ev_ok E hm i
      replace hl:natR (aidxD N h (aggD dd) ti.size n (ev env (cO mm x))) (ev env (cO mm i)) = .ok d n' h':=hl
      obtain ⟨ki,m,hm2,hl⟩:=natR_inv hl
      rw [hm2] at hix
      have hvi:=hix.int_inv
      revert hl hx
      generalize ev env (cO mm x)=X
      intro hx hl
      cases X with
      | agg cs =>
        cases hv:a.eval x with
        | agg vs =>
          rw [hv] at hx
          obtain ⟨h0,hl⟩:=ifR_inv (show ifR (Nat.blt m n) (okD N h (subA (aggD dd) ti.size (m*ti.size) cs)) = .ok d n' h' from hl)
          rw [blt_iff] at h0
          have h0:=of_decide_eq_true h0
          obtain ⟨h1,rfl,rfl,h2⟩:=okD_inv hl
          have hp:∃ v,(part e vs (m*ti.size)).run P w = .ok v w∧Rep w (Mk β Fb h) β U v d:=part_ok hi hu2 hx h1 h2
          obtain ⟨v,h3,h4⟩:=hp
          refine still ⟨v,?_,h4,rfl⟩
          show (Instr.index T (a.eval x) (a.eval i)).run P w=_
          unfold Instr.index
          rw [hv,hvi]
          have hcond : (0:Int)≤Int.ofNat m∧Int.ofNat m < n:=by simp only [Int.ofNat_eq_natCast]; omega
          simp only [asIntOf,Sem.run_bind,Sem.run_pure,Result.andThen_ok,run_underlying hu,hcond,and_self,if_true,run_sizeOf hi]
          exact h3
        | _=>rw [hv] at hx; cases hx
      | _=>cases hl
    · cases hd
  | slice T x lo hi mx =>
    replace hd:opD env N h (cSlice P mm T x lo hi mx) = .ok d n' h':=hd
    unfold cSlice at hd
    split at hd
    · rename_i e hu
      split at hd
      · rename_i j hj; exact still (slice_ok hu hj E hm (ev_ok E hm x) hd)
      · cases hd
    · rename_i hu
      split at hd
      · exact still (sslice_ok hu E hm (ev_ok E hm x) hd)
      · cases hd
    · cases hd
  | extract x i=>exact still (ext_ok (ev_ok E hm x) hd)
  | makeFunc fn fs cs =>
    replace hd:opD env N h (cFn1 mm fn fs cs) = .ok d n' h':=hd
    unfold cFn1 at hd
    split at hd
    · rename_i f
      cases hd
      obtain ⟨h1,h2⟩:=evs_ok E hm fs
      obtain ⟨h3,h4⟩:=evs_ok E hm cs
      exact still ⟨_,rfl,.fn f _ _ _ _ h1 h3 h2 h4,rfl⟩
    · cases hd
  | makeSlice T l c =>
    replace hd:opD env N h (cMksl P mm T l c) = .ok d n' h':=hd
    unfold cMksl at hd
    split at hd
    · rename_i e hu
      split at hd
      · rename_i i hi
        split at hd
        · rename_i z hz
          split at hd
          · rename_i hc
            simp only [Bool.and_eq_true,decide_eq_true_eq] at hc
            have hlc:l=c:=by
              have h1:=hc.1.1.1
              unfold sameTmp at h1
              split at h1
              · rw [eq_of_beq h1]
              · rw [Bool.and_eq_true,decide_eq_true_eq,beq_iff_eq] at h1
                rw [h1.1,h1.2]
              · cases h1
            subst hlc
            exact full rfl (mksl_ok (P:=P) I (hN rfl) hu hi hz hc.1.1.2 hc.2 (ev_ok E hm l) hd)
          · cases hd
        · cases hd
      · cases hd
    · cases hd
  | nilCheck x =>
    obtain ⟨rfl,rfl,h1⟩:=nilck_ok (ev_ok E hm x) (show nilckD N h (ev env (cO mm x)) = .ok d n' h' from hd)
    refine OpOk.still I (v:=a.eval x) ?_ (ev_ok E hm x)
    rcases h1 with ⟨b,e⟩ | ⟨f,b,c,e⟩ <;> simp only [execOp,e,Sem.run_pure]
  | makeMap T r=>cases hd
  | lookup T x i ok=>cases hd
  | mapUpdate T x i v=>cases hd
  | convert src dst' x =>
    replace hd:opD env N h (cCvt P mm src dst' x) = .ok d n' h':=hd
    unfold cCvt at hd
    split at hd
    · rename_i dd k hs hu; exact still (cvi_ok hs hu (ev_ok E hm x) hd)
    · rename_i e hs hu
      have hnew : (match P.underlying src,P.underlying dst' with | some .string,some (.slice _)=>true | some (.slice _),some (.slice _)=>true | _,_=>false)=true:=by rw [hs,hu]
      split at hd
      · rename_i he; exact full hnew (cvb_ok I (hN hnew) hs hu (isU8_inv he) (ev_ok E hm x) hd)
      · cases hd
    · rename_i e hs hu
      split at hd
      · rename_i he; exact still (cbs_ok I hs hu (isU8_inv he) (ev_ok E hm x) hd)
      · cases hd
    · rename_i e1 e hs hu
      have hnew : (match P.underlying src,P.underlying dst' with | some .string,some (.slice _)=>true | some (.slice _),some (.slice _)=>true | _,_=>false)=true:=by rw [hs,hu]
      split at hd
      · rename_i he
        obtain ⟨rfl,he⟩:=he
        exact full hnew (cbb_ok I hu (isU8_inv he) (ev_ok E hm x) hd)
      · cases hd
    · cases hd
  | makeInterface T x=>cases hd
  | typeAssert x xT T ok=>cases hd
  | range T x=>cases hd
  | call c =>
    cases hc:c.callee with
    | builtin b=>exact builtin_ok I E hm hN hc hd
    | value f=>have hd':opD env N h (cCall P mm c) = .ok d n' h':=hd; unfold cCall at hd'; rw [hc] at hd'; cases hd'
    | invoke r n=>have hd':opD env N h (cCall P mm c) = .ok d n' h':=hd; unfold cCall at hd'; rw [hc] at hd'; cases hd'
  | _=>cases hd

def NumOk (n:Nat):Rd→Prop
  | .ok _ m _=>m=n
  | .bad=>True
theorem NumOk.ifR {n:Nat} {b:Bool} {r:Rd} (hr:NumOk n r):NumOk n (ifR b r):=by cases b <;> first | exact hr | trivial
theorem NumOk.io {n:Nat} {b:Bool} {d:D} {h:Hps}:NumOk n (Ytpbpmpabndgeeaa.ifR b (.ok d n h)):=NumOk.ifR rfl
theorem NumOk.brec {n:Nat} {b:Bool} {r s:Rd} (hr:NumOk n r) (hs:NumOk n s):NumOk n (Bool.rec (motive:=fun _=>Rd) r s b):=by cases b <;> first | exact hr | exact hs
theorem NumOk.okD {n:Nat} {h:Hps} (x:D):NumOk n (okD n h x):=by cases x <;> first | rfl | trivial
theorem NumOk.natR {n:Nat} {f:Nat→Rd} (hf:∀ m,NumOk n (f m)) (x:D):NumOk n (natR f x):=by
  cases x with
  | int k i=>cases i with
    | ofNat m=>exact hf m
    | negSucc m=>trivial
  | _=>trivial
theorem NumOk.optN {n:Nat} {f:Nat→Rd} (hf:∀ m,NumOk n (f m)) (e:Tr) (x:Option Opd) (m:Nat):NumOk n (optN e x m f):=by
  cases x with
  | none=>exact hf m
  | some x=>exact NumOk.natR hf _
theorem opD_num (e:Tr) (n:Nat) (h:Hps) (o:DOp):NumOk n (opD e n h o):=by
  have hbox:∀ k d,NumOk n (boxD n h k d):=by intro k d; cases d <;> first | trivial | exact NumOk.io
  cases o with
  | mv=>rfl
  | pick c a b=>show NumOk n (pickD n h (ev e a) (ev e b) (ev e c)); cases ev e c <;> first | rfl | trivial
  | new k z=>exact hbox _ _
  | box k x=>exact hbox _ _
  | build zs ps=>show NumOk n (buildD n h (fillP e ps (some zs))); cases fillP e ps (some zs) <;> first | rfl | trivial
  | bsl k es=>exact NumOk.brec (NumOk.io) rfl
  | load ag k a =>
    show NumOk n (loadD ag k n h (ev e a))
    cases ev e a with
    | ptr r i j=>show NumOk n (loadR ag k i j n h (getO h r)); cases getO h r <;> first | exact NumOk.okD _ | trivial
    | ip=>exact NumOk.okD _
    | _=>trivial
  | store ag k a x =>
    show NumOk n (storeD ag k (ev e x) n h (ev e a))
    cases ev e a with
    | ptr r i j =>
      show NumOk n (storeR ag k r i j (ev e x) n h (getO h r))
      cases getO h r with
      | row kk es =>
        show NumOk n (storeS r kk i es n h (setS ag k j (nth es i) (ev e x)))
        cases setS ag k j (nth es i) (ev e x) <;> first | exact NumOk.io | trivial
      | _=>trivial
    | _=>trivial
  | bin=>exact NumOk.okD _
  | cmp neg t x y=>show NumOk n (obR n h neg (eqD t (ev e x) (ev e y))); cases eqD t (ev e x) (ev e y) <;> first | rfl | trivial
  | not x=>show NumOk n (notD n h (ev e x)); cases ev e x <;> first | rfl | trivial
  | neg x=>show NumOk n (negD n h (ev e x)); cases ev e x <;> first | rfl | trivial
  | faddr o x=>show NumOk n (faddrD n h o (ev e x)); cases ev e x <;> first | rfl | trivial
  | fld ag o k x=>show NumOk n (fldD n h ag o k (ev e x)); cases ev e x <;> first | exact NumOk.okD _ | trivial
  | iaddr k x i =>
    refine NumOk.natR (fun m=>?_) _
    cases ev e x <;> first | exact NumOk.io | trivial
  | sidx x i =>
    refine NumOk.natR (fun m=>?_) _
    cases ev e x with
    | str s=>unfold sidxD; simp only; split <;> first | rfl | trivial
    | _=>trivial
  | cvi k x=>show NumOk n (cviD n h k (ev e x)); cases ev e x <;> first | rfl | trivial
  | paddr k m x i =>
    refine NumOk.natR (fun j=>?_) _
    cases ev e x <;> first | exact NumOk.io | trivial
  | mdel t m k =>
    show NumOk n (mdelD n h t (ev e k) (ev e m))
    cases ev e m with
    | mp r =>
      show NumOk n (mdelR n h t r (ev e k) (getO h r))
      cases getO h r with
      | map es=>show NumOk n (mdelF n h r (delK t (ev e k) es) (findK t (ev e k) es)); cases findK t (ev e k) es <;> first | rfl | trivial
      | _=>trivial
    | _=>trivial
  | aidx ag k m x i =>
    refine NumOk.natR (fun m=>?_) _
    cases ev e x <;> first | exact NumOk.ifR (NumOk.okD _) | trivial
  | slice k x lo hi mx =>
    show NumOk n (sliceD n h k e (ev e x) lo hi mx)
    have h2:NumOk n (slice2 n h k e (ev e x) lo hi):=by
      cases ev e x <;> first | exact NumOk.ifR (NumOk.optN (fun _=>NumOk.optN (fun _=>NumOk.io) _ _ _) _ _ _) | exact NumOk.optN (fun _=>NumOk.optN (fun _=>NumOk.io) _ _ _) _ _ _ | trivial
    have h3:NumOk n (slice3 n h k e (ev e x) lo hi mx):=by
      cases ev e x <;> first | exact NumOk.ifR (NumOk.optN (fun _=>NumOk.optN (fun _=>NumOk.optN (fun _=>NumOk.io) _ _ _) _ _ _) _ _ _) | exact NumOk.optN (fun _=>NumOk.optN (fun _=>NumOk.optN (fun _=>NumOk.io) _ _ _) _ _ _) _ _ _ | trivial
    cases mx with
    | none=>exact h2
    | some m=>cases hi with
      | none=>trivial
      | some u=>exact h3
  | sslice x lo hi =>
    show NumOk n (ssliceD n h e (ev e x) lo hi)
    cases ev e x <;> first | exact NumOk.optN (fun _=>NumOk.optN (fun _=>NumOk.io) _ _ _) _ _ _ | trivial
  | ext x i=>show NumOk n (extD n h i (ev e x)); cases ev e x <;> first | exact NumOk.okD _ | trivial
  | mkfn=>rfl
  | mksl k b z x=>exact NumOk.natR (fun _=>NumOk.io) _
  | nilck x=>show NumOk n (nilckD n h (ev e x)); cases ev e x <;> first | rfl | trivial
  | mkmap=>rfl
  | look t z ok m i =>
    have hl:∀ o,NumOk n (lookR n h t z ok (ev e i) o):=by
      intro o
      cases o with
      | map es=>show NumOk n (lookF n h z ok (findK t (ev e i) es)); cases findK t (ev e i) es <;> first | rfl | trivial
      | _=>trivial
    show NumOk n (lookD n h t z ok (ev e i) (ev e m))
    cases ev e m <;> first | exact hl _ | trivial
  | mupd t m k x =>
    show NumOk n (mupdD n h t (ev e k) (ev e x) (ev e m))
    cases ev e m with
    | mp r =>
      show NumOk n (mupdR n h t r (ev e k) (ev e x) (getO h r))
      cases getO h r with
      | map es=>show NumOk n (mupdF n h r (putK t (ev e k) (ev e x) es) (findK t (ev e k) es)); cases findK t (ev e k) es <;> first | rfl | trivial
      | _=>trivial
    | _=>trivial
  | len t x =>
    show NumOk n (lenD n h t (ev e x))
    have hm:∀ o,NumOk n (lenM n h o):=by intro o; cases o <;> first | rfl | trivial
    cases t <;> first | trivial | (show NumOk n (lenS n h (ev e x)); cases ev e x <;> first | rfl | trivial) | (show NumOk n (lenC n h (ev e x)); cases ev e x <;> first | rfl | trivial) | (show NumOk n (lenT n h (ev e x)); cases ev e x <;> first | rfl | exact hm _ | trivial)
  | app k b s x =>
    show NumOk n (appD n h k b (ev e s) (view k h (ev e x)))
    cases view k h (ev e x) with
    | bad=>trivial
    | ok k' xs =>
      refine NumOk.ifR ?_
      have h1:∀ xs,NumOk n (appN1 n h k b xs):=fun xs=>NumOk.io
      cases xs with
      | nil=>cases ev e s <;> first | rfl | trivial
      | cons x xt =>
        show NumOk n (appV n h k b (x::xt) (ev e s))
        cases ev e s with
        | nils=>exact h1 _
        | sl k' es sp full=>exact NumOk.ifR (h1 _)
        | ms k' r off len full =>
          refine NumOk.ifR ?_
          cases getO h r with
          | row kk es=>exact NumOk.brec (NumOk.ifR (NumOk.io)) (NumOk.ifR (h1 _))
          | _=>trivial
        | _=>trivial
  | max x y =>
    show NumOk n (maxD n h (ev e x) (ev e y))
    cases ev e x <;> first | trivial | (cases ev e y <;> first | rfl | trivial)
  | min x y =>
    show NumOk n (minD n h (ev e x) (ev e y))
    cases ev e x <;> first | trivial | (cases ev e y <;> first | rfl | trivial)
  | cvb x =>
    show NumOk n (cvbD n h (ev e x))
    cases ev e x <;> first | trivial | exact NumOk.io
  | cbs x =>
    show NumOk n (cbsD n h (view 1 h (ev e x)))
    cases view 1 h (ev e x) with
    | bad=>trivial
    | ok k xs =>
      refine NumOk.ifR ?_
      cases bytesL xs <;> first | trivial | rfl
  | cbb x =>
    show NumOk n (cbbD n h (ev e x))
    cases ev e x with
    | ms k r off len full =>
      show NumOk n (cbbR n h (.ms k r off len full) len (getO h r))
      cases getO h r <;> first | trivial | exact NumOk.io
    | _=>trivial
  | apps s x =>
    have h1:∀ xs,NumOk n (appN1 n h 1 1 xs):=fun xs=>NumOk.io
    show NumOk n (appsD n h (ev e s) (ev e x))
    cases ev e x with
    | str t =>
      show NumOk n (appW n h 1 1 (ev e s) (strL t))
      cases strL t with
      | nil=>cases ev e s <;> first | rfl | trivial
      | cons x xt =>
        show NumOk n (appV n h 1 1 (x::xt) (ev e s))
        cases ev e s with
        | nils=>exact h1 _
        | sl k' es sp full=>exact NumOk.ifR (h1 _)
        | ms k' r off len full =>
          refine NumOk.ifR ?_
          cases getO h r with
          | row kk es=>exact NumOk.brec (NumOk.ifR (NumOk.io)) (NumOk.ifR (h1 _))
          | _=>trivial
        | _=>trivial
    | _=>trivial
  | mkif t x=>rfl
  | tas t ok z x =>
    have hn:NumOk n (tasN n h ok z):=by cases ok <;> first | rfl | trivial
    have hy:∀ d,NumOk n (tasY n h ok d):=by intro d; cases d <;> first | rfl | trivial
    show NumOk n (tasD n h t ok z (ev e x))
    cases ev e x <;> first | exact NumOk.brec hn (hy _) | exact hn | trivial
  | mrng x =>
    have hm:∀ q o,NumOk n (mrngR n h q o):=by intro q o; cases o <;> first | rfl | trivial
    show NumOk n (mrngD n h (ev e x))
    cases ev e x <;> first | exact hm _ _ | trivial
  | inv=>trivial
  | call=>trivial
  | bad=>trivial
end
end
end Go.Proofs.Ytpbpmpabndgeeaa
