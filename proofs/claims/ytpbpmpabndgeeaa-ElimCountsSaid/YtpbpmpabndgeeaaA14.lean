/- Each operation, run. Twelfth part: maps. No condition. -/
import Derived.Test.YtpbpmpabndgeeaaA12

/- Each operation,run. Eleventh part: equality,and the small ones. No condition. -/
set_option linter.unusedSimpArgs false
set_option linter.unusedVariables false
namespace Go.Proofs.Ytpbpmpabndgeeaa
open Go

section
variable {P:Program} {RC:Nat→Code→DCode→Prop} {Fb:Nat→Prop} {β:Nat→Bk} {U:Us} {N:Nat} {h:Hps} {w:World}

def plainV:Value→Bool
  | .bool _=>true
  | .pointer _=>true
  | .slice .. => true
  | .func .. => true
  | .nilFunc=>true
  | .map _=>true
  | _=>false
def plainK:EK→Bool
  | .int _=>false
  | .str=>false
  | .struct _=>false
  | _=>true
theorem eq1_plain {M:Nat→Prop} {ek:EK} {vx:Value} {x y:D} {b:Bool} (hk:plainK ek=true) (hx:Rep w M β U vx x) (hd:eq1 ek x y = .ok b):plainV vx=true:=by
  cases ek with
  | int=>cases hk
  | str=>cases hk
  | struct=>cases hk
  | _=>cases hx <;> first | rfl | cases hd
theorem run_cmp_plain {t:TypeId} {vx vy:Value} {b:Bool} (hp:plainV vx=true) (he : (Op.equal t vx vy).run P w = .ok b w) :
    (binOp .eql t vx vy).run P w = .ok (.bool b) w ∧ (binOp .neq t vx vy).run P w = .ok (.bool !b) w∧∀ op o1 o2,(eqGuard op t o1 o2 vx vy).run P w = .ok () w:=by
  have e1:binOp .eql t vx vy = (do pure (.bool (← Op.equal t vx vy))):=by cases vx <;> first | rfl | cases hp
  have e2:binOp .neq t vx vy = (do pure (.bool (!(← Op.equal t vx vy)))):=by cases vx <;> first | rfl | cases hp
  refine ⟨?_,?_,fun op o1 o2=>?_⟩
  · rw [e1,Sem.run_bind,he]; rfl
  · rw [e2,Sem.run_bind,he]; rfl
  · cases vx <;> first | (cases hp; done) | (cases op <;> rfl)

theorem obR_inv {n n':Nat} {h h':Hps} {neg:Bool} {o:OB} {d:D} (e:obR n h neg o = .ok d n' h'):∃ b,o = .ok b∧d = .bool (eqB (!neg) b)∧h'=h:=by
  cases o with
  | bad=>cases e
  | ok b=>cases e; exact ⟨b,rfl,rfl,rfl⟩

theorem cmp_ok {M:Nat→Prop} {op:BinOp} {neg:Bool} (hop:op=if neg then .neq else .eql) {t:TypeId} {dd:TypeDesc} {ek:EK} (hu:P.underlying t=some dd)
    (hk : (plainK ek=true∧ekS dd=some ek)∨∃ fs l,dd = .struct fs∧ek = .struct l∧ekL P fs.toList=some l∧rowed fs.toList 0=true∧P.stoodInHeld t=false∧P.eqGuardType P.depth t=false)
    {vx vy:Value} {x y d:D} {n':Nat} {h':Hps} (hx:Rep w M β U vx x) (hy:Rep w M β U vy y) (hd:obR N h neg (eqD ek x y) = .ok d n' h') :
    ∃ b,(binOp op t vx vy).run P w = .ok (.bool b) w ∧ (∀ o1 o2,(eqGuard op t o1 o2 vx vy).run P w = .ok () w)∧d = .bool b∧h'=h:=by
  obtain ⟨b,h1,rfl,rfl⟩:=obR_inv hd
  have fin : (binOp .eql t vx vy).run P w = .ok (.bool b) w → (binOp .neq t vx vy).run P w = .ok (.bool !b) w → (∀ op o1 o2,(eqGuard op t o1 o2 vx vy).run P w = .ok () w) →
      ∃ b',(binOp op t vx vy).run P w = .ok (.bool b') w ∧ (∀ o1 o2,(eqGuard op t o1 o2 vx vy).run P w = .ok () w)∧D.bool (eqB (!neg) b) = .bool b'∧h'=h':=by
    intro e1 e2 e3
    cases neg with
    | false=>subst hop; exact ⟨b,e1,e3 _,by cases b <;> rfl,rfl⟩
    | true=>subst hop; exact ⟨!b,e2,e3 _,by cases b <;> rfl,rfl⟩
  rcases hk with ⟨h2,h3⟩ | ⟨fs,l,rfl,rfl,h2,h3,h4,h5⟩
  · have h1':eq1 ek x y = .ok b:=by cases ek <;> first | exact h1 | cases h2
    obtain ⟨e1,e2,e3⟩:=run_cmp_plain (eq1_plain h2 hx h1') (eq1_ok (P:=P) (w:=w) hu h3 hx hy h1' 9999)
    exact fin e1 e2 e3
  · have h1':eqAg l x y = .ok b:=h1
    cases hx with
    | agg xs cx hlx hox hrx =>
      cases hy with
      | agg ys cy hly hoy hry =>
        have hL:=eqL_ok (P:=P) (w:=w) hrx hry hlx hly 9998 fs.toList 0 l b h2 h3 h1'
        have hf:P.fieldsOf t=fs:=by simp [Program.fieldsOf,hu]
        have hE : (Op.equalIn 10000 t (.agg xs) (.agg ys)).run P w = .ok b w:=by
          rw [run_equalIn_struct w 9999 t xs ys (by rw [hf]; exact hu) h4,hf]
          exact hL
        exact fin (by rw [run_eql_struct,hE]; rfl) (by rw [run_neq_struct,hE]; rfl) (fun op o1 o2=>run_eqGuard_agg w op t o1 o2 xs ys h5)
      | _=>cases h1'
    | _=>cases h1'

theorem pick_ok {M:Nat→Prop} {vc va vb:Value} {c a b d:D} {n':Nat} {h':Hps} (hc:Rep w M β U vc c) (ha:Rep w M β U va a) (hb:Rep w M β U vb b) (hd:pickD N h a b c = .ok d n' h') :
    ∃ v,(asBool vc).run P w = .ok v w∧Rep w M β U (if v then va else vb) d∧h'=h:=by
  cases hc with
  | @bool _ t =>
    cases t <;> cases hd
    · exact ⟨false,rfl,hb,rfl⟩
    · exact ⟨true,rfl,ha,rfl⟩
  | _=>cases hd
theorem not_ok {M:Nat→Prop} {vx:Value} {x d:D} {n':Nat} {h':Hps} (hx:Rep w M β U vx x) (hd:notD N h x = .ok d n' h') :
    ∃ v,(Op.unary .not vx).run P w = .ok v w∧Rep w M β U v d∧h'=h:=by
  cases hx with
  | @bool _ t=>cases hd; exact ⟨.bool !t,rfl,by cases t <;> exact .bool,rfl⟩
  | _=>cases hd
theorem neg_ok {M:Nat→Prop} {vx:Value} {x d:D} {n':Nat} {h':Hps} (hx:Rep w M β U vx x) (hd:negD N h x = .ok d n' h') :
    ∃ v,(Op.unary .neg vx).run P w = .ok v w∧Rep w M β U v d∧h'=h:=by
  cases hx with
  | @int _ k a =>
    cases hd
    refine ⟨.int k (k.wrap (0 - a)),rfl,?_,rfl⟩
    rw [wr_eq]
    exact .int
  | _=>cases hd
theorem cvi_ok {M:Nat→Prop} {src dst:TypeId} {dd:TypeDesc} {k:IntKind} (hs:P.underlying src=some dd) (hu:P.underlying dst=some (.int k)) {vx:Value} {x d:D} {n':Nat} {h':Hps} (hx:Rep w M β U vx x) (hd:cviD N h k x = .ok d n' h') :
    ∃ v,(convert src dst vx).run P w = .ok v w∧Rep w M β U v d∧h'=h:=by
  cases hx with
  | @int _ q a =>
    cases hd
    refine ⟨.int k (k.wrap a),?_,?_,rfl⟩
    · unfold convert
      rw [Sem.run_bind,run_underlying hs,Result.andThen_ok,Sem.run_bind,run_underlying hu,Result.andThen_ok]
      rfl
    · rw [wr_eq]
      exact .int
  | _=>cases hd
theorem faddr_ok {M:Nat→Prop} {T:TypeId} {fs:Array Field} {fi:Nat} {fl:Field} {ti:TypeInfo} (hu:P.underlying T=some (.struct fs)) (hf:fs[fi]? = some fl) (hi:P.info? fl.type=some ti) (hz:ti.size≠0) {vx:Value} {x d:D} {n':Nat} {h':Hps}
    (hx:Rep w M β U vx x) (hd:faddrD N h fl.offset x = .ok d n' h'):∃ v,(Instr.fieldAt T vx fi).run P w = .ok v w∧Rep w M β U v d∧h'=h:=by
  have hrun:∀ a:Addr,(Instr.fieldAt T (.pointer (some a)) fi).run P w = .ok (.pointer (some (a.add fl.offset))) w:=by
    intro a
    simp [Instr.fieldAt,run_underlying hu,hf,Instr.sureAddr,fieldPlace,run_sizeOf hi,hz]
  have hadd:∀ (b o:Nat),(Addr.add ⟨b,o,none⟩ fl.offset)=⟨b,o+fl.offset,none⟩:=by
    intro b o
    unfold Addr.add
    split
    · rename_i h0; rw [h0]; rfl
    · rfl
  cases hx with
  | ptr i j hr =>
    cases hd
    refine ⟨_,hrun _,?_,rfl⟩
    rw [hadd,Nat.add_assoc]
    exact .ptr i _ hr
  | ip b o e j vs hM hc ho hr =>
    cases hd
    refine ⟨_,hrun _,?_,rfl⟩
    rw [hadd,Nat.add_assoc]
    exact .ip b o e _ vs hM hc ho hr
  | _=>cases hd
theorem ext_ok {M:Nat→Prop} {i:Nat} {vx:Value} {x d:D} {n':Nat} {h':Hps} (hx:Rep w M β U vx x) (hd:extD N h i x = .ok d n' h'):∃ v,(Instr.extract vx i).run P w = .ok v w∧Rep w M β U v d∧h'=h:=by
  cases hx with
  | tup vs cs hl hr =>
    obtain ⟨h1,rfl,rfl,h2⟩:=okD_inv (show okD N h (nth cs i) = .ok d n' h' from hd)
    have hlt:=nth_lt (h1 ▸ h2:nth cs i ≠ .junk)
    refine ⟨vs.getD i undef,?_,?_,rfl⟩
    · simp [Instr.extract,Array.getD,hl,hlt]
    · rw [← h1,nth_eq]; exact hr i hlt
  | _=>cases hd
theorem nilck_ok {M:Nat→Prop} {vx:Value} {x d:D} {n':Nat} {h':Hps} (hx:Rep w M β U vx x) (hd:nilckD N h x = .ok d n' h'):d=x∧h'=h ∧ ((∃ a,vx = .pointer (some a))∨∃ f a c,vx = .func (.func f) a c):=by
  cases hx <;> first | (cases hd; done) | (cases hd; exact ⟨rfl,rfl,.inl ⟨_,rfl⟩⟩) | (cases hd; exact ⟨rfl,rfl,.inr ⟨_,_,_,rfl⟩⟩)
theorem max_ok {M:Nat→Prop} {vx vy:Value} {x y d:D} {n':Nat} {h':Hps} (hx:Rep w M β U vx x) (hy:Rep w M β U vy y) (hd:maxD N h x y = .ok d n' h') (ts:Array TypeId) (t:TypeId) :
    ∃ v,(Builtin.max_ ts t #[vx,vy]).run P w = .ok v w∧Rep w M β U v d∧h'=h:=by
  cases hx with
  | @int _ k a =>
    cases hy with
    | @int _ k' b =>
      cases hd
      refine ⟨.int k (if b > a then b else a),by simp [Builtin.max_,Builtin.max2],?_,rfl⟩
      rw [ltI_eq]
      by_cases hab:a < b
      · rw [if_pos hab,decide_eq_true hab]; exact .int
      · rw [if_neg hab,decide_eq_false hab]; exact .int
    | _=>cases hd
  | _=>cases hd
theorem min_ok {M:Nat→Prop} {vx vy:Value} {x y d:D} {n':Nat} {h':Hps} (hx:Rep w M β U vx x) (hy:Rep w M β U vy y) (hd:minD N h x y = .ok d n' h') (ts:Array TypeId) (t:TypeId) :
    ∃ v,(Builtin.min_ ts t #[vx,vy]).run P w = .ok v w∧Rep w M β U v d∧h'=h:=by
  cases hx with
  | @int _ k a =>
    cases hy with
    | @int _ k' b =>
      cases hd
      refine ⟨.int k (if b < a then b else a),by simp [Builtin.min_,Builtin.min2],?_,rfl⟩
      rw [ltI_eq]
      by_cases hab:b < a
      · rw [if_pos hab,decide_eq_true hab]; exact .int
      · rw [if_neg hab,decide_eq_false hab]; exact .int
    | _=>cases hd
  | _=>cases hd
theorem run_getM {r:Nat} {es:Array MapEntry} {clock:Nat} (hb:w.heap[r]? = some (.map es clock)) : (getObj r).run P w = .ok (.map es clock) w:=by simp [getObj,Sem.run,hb]
theorem lenI_ok {M:Nat→Prop} {n' l:Nat} {h':Hps} {d:D} (hd:lenI N h l = .ok d n' h'):Rep w M β U (goInt (l:Int)) d∧h'=h:=by
  cases hd
  exact ⟨.int,rfl⟩
theorem len_ok (I:Inv RC β U Fb h w) {t:TypeId} {dd:TypeDesc} {ek:EK} (hu:P.underlying t=some dd) (hk : (dd = .string∧ek = .str) ∨ (∃ e,dd = .slice e∧ek = .slice)∨∃ a b,dd = .map a b∧ek = .map) {vx:Value} {x d:D} {n':Nat} {h':Hps}
    (hx:Rep w (Mk β Fb h) β U vx x) (hd:lenD N h ek x = .ok d n' h') (ty:TypeId):∃ v,(Builtin.len_ #[t] ty #[vx]).run P w = .ok v w∧Rep w (Mk β Fb h) β U v d∧h'=h:=by
  rcases hk with ⟨rfl,rfl⟩ | ⟨e,rfl,rfl⟩ | ⟨a,b,rfl,rfl⟩
  · cases hx with
    | str s =>
      have h1:lenI N h (lenN (sb s)) = .ok d n' h':=hd
      rw [lenN_eq,sb_len] at h1
      exact ⟨_,by simp [Builtin.len_,run_underlying hu],lenI_ok h1⟩
    | _=>cases hd
  · cases hx with
    | nils=>exact ⟨_,by simp [Builtin.len_,run_underlying hu],lenI_ok hd⟩
    | sl a b o c k es sp full vs ha hM hk hcap hf hc ho hr =>
      have h1:lenI N h (lenL es) = .ok d n' h':=hd
      rw [lenL_eq] at h1
      exact ⟨_,by simp [Builtin.len_,run_underlying hu],lenI_ok h1⟩
    | ms a off len c full hr ha hl hf hg hC hcx=>exact ⟨_,by simp [Builtin.len_,run_underlying hu],lenI_ok hd⟩
    | _=>cases hd
  · cases hx with
    | nilm=>exact ⟨_,by simp [Builtin.len_,run_underlying hu],lenI_ok hd⟩
    | @mp _ r hr =>
      have h1:lenM N h (getO h r) = .ok d n' h':=hd
      have ho:=I.obj r
      cases hg:getO h r with
      | map es =>
        rw [hg] at h1 ho
        obtain ⟨ents,clock,h2,_,h3,_⟩:=ho
        have h4:lenI N h es.length = .ok d n' h':=h1
        rw [← h3] at h4
        exact ⟨_,by simp [Builtin.len_,run_underlying hu,run_getM h2],lenI_ok h4⟩
      | _=>rw [hg] at h1; cases h1
    | _=>cases hd
end
end Go.Proofs.Ytpbpmpabndgeeaa

/- Each operation,run. Twelfth part: maps. No condition. -/
namespace Go.Proofs.Ytpbpmpabndgeeaa
open Go

section
variable {P:Program} {RC:Nat→Code→DCode→Prop} {Fb:Nat→Prop} {β:Nat→Bk} {U:Us} {N:Nat} {h:Hps} {w:World}

def keyK (dd:TypeDesc) (t:EK):Prop := (dd = .bool∧t = .bool) ∨ (dd = .string∧t = .str)∨∃ k,dd = .int k∧t = .int k

def EsOk (w:World) (M:Nat→Prop) (β:Nat→Bk) (U:Us) (ents:List MapEntry) (es:List (D×D)):Prop :=
  ents.length=es.length∧∀ i,i < es.length→Rep w M β U (ents.getD i default).key (es.getD i (.junk,.junk)).1∧Rep w M β U (ents.getD i default).val (es.getD i (.junk,.junk)).2

theorem EsOk.cons {M:Nat→Prop} {e:MapEntry} {ents:List MapEntry} {p:D×D} {es:List (D×D)} (h1:Rep w M β U e.key p.1) (h2:Rep w M β U e.val p.2) (H:EsOk w M β U ents es):EsOk w M β U (e::ents) (p::es):=by
  refine ⟨by simpa using H.1,fun i hi=>?_⟩
  cases i with
  | zero=>exact ⟨h1,h2⟩
  | succ i=>simpa using H.2 i (by simp at hi; omega)

end
end Go.Proofs.Ytpbpmpabndgeeaa
