/- Each operation, run. Twelfth part: maps. No condition. -/
import Derived.Test.YtpbpmpabndgeeaaDoorA12

/- Each operation,run. Eleventh part: equality,and the small ones. No condition. -/
set_option linter.unusedSimpArgs false
set_option linter.unusedVariables false
namespace Go.Proofs.YtpbpmpabndgeeaaDoor
open Go

section
variable {P : Program} {RC : Nat → Code → DCode → Prop} {Fb : Nat → Prop} {β : Nat → Bk} {U : Us} {N : Nat} {h : Hps} {w : World}

def plainV : Value → Bool
  | .bool _ => true
  | .pointer _ => true
  | .slice .. => true
  | .func .. => true
  | .nilFunc => true
  | .map _ => true
  | _ => false
def plainK : EK → Bool
  | .int _ => false
  | .str => false
  | .struct _ => false
  | _ => true
theorem eq1_plain {M : Nat → Prop} {ek : EK} {vx : Value} {x y : D} {b : Bool} (hk : plainK ek = true) (hx : Rep w M β U vx x) (hd : eq1 ek x y = .ok b) : plainV vx = true := by
  cases ek with
  | int => cases hk
  | str => cases hk
  | struct => cases hk
  | _ => cases hx <;> first | rfl | cases hd
theorem run_cmp_plain {t : TypeId} {vx vy : Value} {b : Bool} (hp : plainV vx = true) (he : (Op.equal t vx vy).run P w = .ok b w) :
    (binOp .eql t vx vy).run P w = .ok (.bool b) w ∧ (binOp .neq t vx vy).run P w = .ok (.bool !b) w ∧ ∀ op o1 o2,(eqGuard op t o1 o2 vx vy).run P w = .ok () w := by
  have e1 : binOp .eql t vx vy = (do pure (.bool (← Op.equal t vx vy))) := by cases vx <;> first | rfl | cases hp
  have e2 : binOp .neq t vx vy = (do pure (.bool (!(← Op.equal t vx vy)))) := by cases vx <;> first | rfl | cases hp
  refine ⟨?_,?_,fun op o1 o2 => ?_⟩
  · rw [e1,Sem.run_bind,he]; rfl
  · rw [e2,Sem.run_bind,he]; rfl
  · cases vx <;> first | (cases hp; done) | (cases op <;> rfl)

theorem obR_inv {n n' : Nat} {h h' : Hps} {neg : Bool} {o : OB} {d : D} (e : obR n h neg o = .ok d n' h') : ∃ b,o = .ok b ∧ d = .bool (eqB (!neg) b) ∧ h' = h := by
  cases o with
  | bad => cases e
  | ok b => cases e; exact ⟨b,rfl,rfl,rfl⟩

theorem cmp_ok {M : Nat → Prop} {op : BinOp} {neg : Bool} (hop : op = if neg then .neq else .eql) {t : TypeId} {dd : TypeDesc} {ek : EK} (hu : P.underlying t = some dd)
    (hk : (plainK ek = true ∧ ekS dd = some ek) ∨ ∃ fs l,dd = .struct fs ∧ ek = .struct l ∧ ekL P fs.toList = some l ∧ rowed fs.toList 0 = true ∧ P.stoodInHeld t = false ∧ P.eqGuardType P.depth t = false)
    {vx vy : Value} {x y d : D} {n' : Nat} {h' : Hps} (hx : Rep w M β U vx x) (hy : Rep w M β U vy y) (hd : obR N h neg (eqD ek x y) = .ok d n' h') :
    ∃ b,(binOp op t vx vy).run P w = .ok (.bool b) w ∧ (∀ o1 o2,(eqGuard op t o1 o2 vx vy).run P w = .ok () w) ∧ d = .bool b ∧ h' = h := by
  obtain ⟨b,h1,rfl,rfl⟩ := obR_inv hd
  have fin : (binOp .eql t vx vy).run P w = .ok (.bool b) w → (binOp .neq t vx vy).run P w = .ok (.bool !b) w → (∀ op o1 o2,(eqGuard op t o1 o2 vx vy).run P w = .ok () w) →
      ∃ b',(binOp op t vx vy).run P w = .ok (.bool b') w ∧ (∀ o1 o2,(eqGuard op t o1 o2 vx vy).run P w = .ok () w) ∧ D.bool (eqB (!neg) b) = .bool b' ∧ h' = h' := by
    intro e1 e2 e3
    cases neg with
    | false => subst hop; exact ⟨b,e1,e3 _,by cases b <;> rfl,rfl⟩
    | true => subst hop; exact ⟨!b,e2,e3 _,by cases b <;> rfl,rfl⟩
  rcases hk with ⟨h2,h3⟩ | ⟨fs,l,rfl,rfl,h2,h3,h4,h5⟩
  · have h1' : eq1 ek x y = .ok b := by cases ek <;> first | exact h1 | cases h2
    obtain ⟨e1,e2,e3⟩ := run_cmp_plain (eq1_plain h2 hx h1') (eq1_ok (P := P) (w := w) hu h3 hx hy h1' 9999)
    exact fin e1 e2 e3
  · have h1' : eqAg l x y = .ok b := h1
    cases hx with
    | agg xs cx hlx hox hrx =>
      cases hy with
      | agg ys cy hly hoy hry =>
        have hL := eqL_ok (P := P) (w := w) hrx hry hlx hly 9998 fs.toList 0 l b h2 h3 h1'
        have hf : P.fieldsOf t = fs := by simp [Program.fieldsOf,hu]
        have hE : (Op.equalIn 10000 t (.agg xs) (.agg ys)).run P w = .ok b w := by
          rw [run_equalIn_struct w 9999 t xs ys (by rw [hf]; exact hu) h4,hf]
          exact hL
        exact fin (by rw [run_eql_struct,hE]; rfl) (by rw [run_neq_struct,hE]; rfl) (fun op o1 o2 => run_eqGuard_agg w op t o1 o2 xs ys h5)
      | _ => cases h1'
    | _ => cases h1'

theorem pick_ok {M : Nat → Prop} {vc va vb : Value} {c a b d : D} {n' : Nat} {h' : Hps} (hc : Rep w M β U vc c) (ha : Rep w M β U va a) (hb : Rep w M β U vb b) (hd : pickD N h a b c = .ok d n' h') :
    ∃ v,(asBool vc).run P w = .ok v w ∧ Rep w M β U (if v then va else vb) d ∧ h' = h := by
  cases hc with
  | @bool _ t =>
    cases t <;> cases hd
    · exact ⟨false,rfl,hb,rfl⟩
    · exact ⟨true,rfl,ha,rfl⟩
  | _ => cases hd
theorem not_ok {M : Nat → Prop} {vx : Value} {x d : D} {n' : Nat} {h' : Hps} (hx : Rep w M β U vx x) (hd : notD N h x = .ok d n' h') :
    ∃ v,(Op.unary .not vx).run P w = .ok v w ∧ Rep w M β U v d ∧ h' = h := by
  cases hx with
  | @bool _ t => cases hd; exact ⟨.bool !t,rfl,by cases t <;> exact .bool,rfl⟩
  | _ => cases hd
theorem neg_ok {M : Nat → Prop} {vx : Value} {x d : D} {n' : Nat} {h' : Hps} (hx : Rep w M β U vx x) (hd : negD N h x = .ok d n' h') :
    ∃ v,(Op.unary .neg vx).run P w = .ok v w ∧ Rep w M β U v d ∧ h' = h := by
  cases hx with
  | @int _ k a =>
    cases hd
    refine ⟨.int k (k.wrap (0 - a)),rfl,?_,rfl⟩
    rw [wr_eq]
    exact .int
  | _ => cases hd
theorem cvi_ok {M : Nat → Prop} {src dst : TypeId} {dd : TypeDesc} {k : IntKind} (hs : P.underlying src = some dd) (hu : P.underlying dst = some (.int k)) {vx : Value} {x d : D} {n' : Nat} {h' : Hps} (hx : Rep w M β U vx x) (hd : cviD N h k x = .ok d n' h') :
    ∃ v,(convert src dst vx).run P w = .ok v w ∧ Rep w M β U v d ∧ h' = h := by
  cases hx with
  | @int _ q a =>
    cases hd
    refine ⟨.int k (k.wrap a),?_,?_,rfl⟩
    · unfold convert
      rw [Sem.run_bind,run_underlying hs,Result.andThen_ok,Sem.run_bind,run_underlying hu,Result.andThen_ok]
      rfl
    · rw [wr_eq]
      exact .int
  | _ => cases hd
theorem faddr_ok {M : Nat → Prop} {T : TypeId} {fs : Array Field} {fi : Nat} {fl : Field} {ti : TypeInfo} (hu : P.underlying T = some (.struct fs)) (hf : fs[fi]? = some fl) (hi : P.info? fl.type = some ti) (hz : ti.size ≠ 0) {vx : Value} {x d : D} {n' : Nat} {h' : Hps}
    (hx : Rep w M β U vx x) (hd : faddrD N h fl.offset x = .ok d n' h') : ∃ v,(Instr.fieldAt T vx fi).run P w = .ok v w ∧ Rep w M β U v d ∧ h' = h := by
  have hrun : ∀ a : Addr,(Instr.fieldAt T (.pointer (some a)) fi).run P w = .ok (.pointer (some (a.add fl.offset))) w := by
    intro a
    simp [Instr.fieldAt,run_underlying hu,hf,Instr.sureAddr,fieldPlace,run_sizeOf hi,hz]
  have hadd : ∀ (b o : Nat),(Addr.add ⟨b,o,none⟩ fl.offset) = ⟨b,o + fl.offset,none⟩ := by
    intro b o
    unfold Addr.add
    split
    · rename_i h0; rw [h0]; rfl
    · rfl
  cases hx with
  | ptr i j hr =>
    cases hd
    refine ⟨_,hrun _,?_,rfl⟩
    rw [hadd,Nat.add_assoc]
    exact .ptr i _ hr
  | ip b o e j vs hM hc ho hr =>
    cases hd
    refine ⟨_,hrun _,?_,rfl⟩
    rw [hadd,Nat.add_assoc]
    exact .ip b o e _ vs hM hc ho hr
  | _ => cases hd
theorem ext_ok {M : Nat → Prop} {i : Nat} {vx : Value} {x d : D} {n' : Nat} {h' : Hps} (hx : Rep w M β U vx x) (hd : extD N h i x = .ok d n' h') : ∃ v,(Instr.extract vx i).run P w = .ok v w ∧ Rep w M β U v d ∧ h' = h := by
  cases hx with
  | tup vs cs hl hr =>
    obtain ⟨h1,rfl,rfl,h2⟩ := okD_inv (show okD N h (nth cs i) = .ok d n' h' from hd)
    have hlt := nth_lt (h1 ▸ h2 : nth cs i ≠ .junk)
    refine ⟨vs.getD i undef,?_,?_,rfl⟩
    · simp [Instr.extract,Array.getD,hl,hlt]
    · rw [← h1,nth_eq]; exact hr i hlt
  | _ => cases hd
theorem nilck_ok {M : Nat → Prop} {vx : Value} {x d : D} {n' : Nat} {h' : Hps} (hx : Rep w M β U vx x) (hd : nilckD N h x = .ok d n' h') : d = x ∧ h' = h ∧ ((∃ a,vx = .pointer (some a)) ∨ ∃ f a c,vx = .func (.func f) a c) := by
  cases hx <;> first | (cases hd; done) | (cases hd; exact ⟨rfl,rfl,.inl ⟨_,rfl⟩⟩) | (cases hd; exact ⟨rfl,rfl,.inr ⟨_,_,_,rfl⟩⟩)
theorem max_ok {M : Nat → Prop} {vx vy : Value} {x y d : D} {n' : Nat} {h' : Hps} (hx : Rep w M β U vx x) (hy : Rep w M β U vy y) (hd : maxD N h x y = .ok d n' h') (ts : Array TypeId) (t : TypeId) :
    ∃ v,(Builtin.max_ ts t #[vx,vy]).run P w = .ok v w ∧ Rep w M β U v d ∧ h' = h := by
  cases hx with
  | @int _ k a =>
    cases hy with
    | @int _ k' b =>
      cases hd
      refine ⟨.int k (if b > a then b else a),by simp [Builtin.max_,Builtin.max2],?_,rfl⟩
      rw [ltI_eq]
      by_cases hab : a < b
      · rw [if_pos hab,decide_eq_true hab]; exact .int
      · rw [if_neg hab,decide_eq_false hab]; exact .int
    | _ => cases hd
  | _ => cases hd
theorem min_ok {M : Nat → Prop} {vx vy : Value} {x y d : D} {n' : Nat} {h' : Hps} (hx : Rep w M β U vx x) (hy : Rep w M β U vy y) (hd : minD N h x y = .ok d n' h') (ts : Array TypeId) (t : TypeId) :
    ∃ v,(Builtin.min_ ts t #[vx,vy]).run P w = .ok v w ∧ Rep w M β U v d ∧ h' = h := by
  cases hx with
  | @int _ k a =>
    cases hy with
    | @int _ k' b =>
      cases hd
      refine ⟨.int k (if b < a then b else a),by simp [Builtin.min_,Builtin.min2],?_,rfl⟩
      rw [ltI_eq]
      by_cases hab : b < a
      · rw [if_pos hab,decide_eq_true hab]; exact .int
      · rw [if_neg hab,decide_eq_false hab]; exact .int
    | _ => cases hd
  | _ => cases hd
theorem run_getM {r : Nat} {es : Array MapEntry} {clock : Nat} (hb : w.heap[r]? = some (.map es clock)) : (getObj r).run P w = .ok (.map es clock) w := by simp [getObj,Sem.run,hb]
theorem run_setM {r : Nat} {es : Array MapEntry} {clock : Nat} (o : Obj) (hb : w.heap[r]? = some (.map es clock)) : (setObj r o).run P w = .ok () { w with heap := w.heap.setIfInBounds r o } := by simp [setObj,Sem.run,hb]
theorem lenI_ok {M : Nat → Prop} {n' l : Nat} {h' : Hps} {d : D} (hd : lenI N h l = .ok d n' h') : Rep w M β U (goInt (l : Int)) d ∧ h' = h := by
  cases hd
  exact ⟨.int,rfl⟩
theorem len_ok (I : Inv RC β U Fb h w) {t : TypeId} {dd : TypeDesc} {ek : EK} (hu : P.underlying t = some dd) (hk : (dd = .string ∧ ek = .str) ∨ (∃ e,dd = .slice e ∧ ek = .slice) ∨ ∃ a b,dd = .map a b ∧ ek = .map) {vx : Value} {x d : D} {n' : Nat} {h' : Hps}
    (hx : Rep w (Mk β Fb h) β U vx x) (hd : lenD N h ek x = .ok d n' h') (ty : TypeId) : ∃ v,(Builtin.len_ #[t] ty #[vx]).run P w = .ok v w ∧ Rep w (Mk β Fb h) β U v d ∧ h' = h := by
  rcases hk with ⟨rfl,rfl⟩ | ⟨e,rfl,rfl⟩ | ⟨a,b,rfl,rfl⟩
  · cases hx with
    | str s =>
      have h1 : lenI N h (lenN (sb s)) = .ok d n' h' := hd
      rw [lenN_eq,sb_len] at h1
      exact ⟨_,by simp [Builtin.len_,run_underlying hu],lenI_ok h1⟩
    | _ => cases hd
  · cases hx with
    | nils => exact ⟨_,by simp [Builtin.len_,run_underlying hu],lenI_ok hd⟩
    | sl a b o c k es sp full vs ha hM hk hcap hf hc ho hr =>
      have h1 : lenI N h (lenL es) = .ok d n' h' := hd
      rw [lenL_eq] at h1
      exact ⟨_,by simp [Builtin.len_,run_underlying hu],lenI_ok h1⟩
    | ms a off len c full hr ha hl hf hg hC hcx => exact ⟨_,by simp [Builtin.len_,run_underlying hu],lenI_ok hd⟩
    | _ => cases hd
  · cases hx with
    | nilm => exact ⟨_,by simp [Builtin.len_,run_underlying hu],lenI_ok hd⟩
    | @mp _ r hr =>
      have h1 : lenM N h (getO h r) = .ok d n' h' := hd
      have ho := I.obj r
      cases hg : getO h r with
      | map es =>
        rw [hg] at h1 ho
        obtain ⟨ents,clock,h2,_,h3,_⟩ := ho
        have h4 : lenI N h es.length = .ok d n' h' := h1
        rw [← h3] at h4
        exact ⟨_,by simp [Builtin.len_,run_underlying hu,run_getM h2],lenI_ok h4⟩
      | _ => rw [hg] at h1; cases h1
    | _ => cases hd
end
end Go.Proofs.YtpbpmpabndgeeaaDoor

/- Each operation,run. Twelfth part: maps. No condition. -/
namespace Go.Proofs.YtpbpmpabndgeeaaDoor
open Go

section
variable {P : Program} {RC : Nat → Code → DCode → Prop} {Fb : Nat → Prop} {β : Nat → Bk} {U : Us} {N : Nat} {h : Hps} {w : World}

def keyK (dd : TypeDesc) (t : EK) : Prop := (dd = .bool ∧ t = .bool) ∨ (dd = .string ∧ t = .str) ∨ ∃ k,dd = .int k ∧ t = .int k

theorem sameNow_ok {M : Nat → Prop} {dd : TypeDesc} {t : EK} (hk : keyK dd t) {vx vy : Value} {x y : D} {b : Bool} (hx : Rep w M β U vx x) (hy : Rep w M β U vy y) (hd : eq1 t x y = .ok b) :
    Instr.sameNow dd vx vy = some b ∧ (b = true → ∀ n,Instr.sameBits n vy vx = true) := by
  rcases hk with ⟨rfl,rfl⟩ | ⟨rfl,rfl⟩ | ⟨k,rfl,rfl⟩
  · cases hx <;> first | (cases hd; done) | skip
    cases hy <;> first | (cases hd; done) | skip
    rename_i a b'
    cases hd
    rw [eqB_eq]
    refine ⟨rfl,fun e n => ?_⟩
    have : a = b' := by simpa using e
    subst this
    cases n <;> simp [Instr.sameBits]
  · cases hx <;> first | (cases hd; done) | skip
    cases hy <;> first | (cases hd; done) | skip
    rename_i a b'
    cases hd
    rw [eqN_eq]
    refine ⟨by simp only [Instr.sameNow]; rw [beq_toListBytes,sb_beq],fun e n => ?_⟩
    have : a = b' := sb_inj (by simpa using e)
    subst this
    have e2 : (a == a) = true := by rw [beq_toListBytes,sb_beq]; exact e
    cases n <;> exact e2
  · cases hx <;> first | (cases hd; done) | skip
    cases hy <;> first | (cases hd; done) | skip
    rename_i k1 a k2 b'
    have h1 : Bool.rec (motive := fun _ => OB) .bad (.ok (eqI a b')) (Bool.and (Nat.beq (kc k) (kc k1)) (Nat.beq (kc k) (kc k2))) = .ok b := hd
    cases h2 : Bool.and (Nat.beq (kc k) (kc k1)) (Nat.beq (kc k) (kc k2)) with
    | false => rw [h2] at h1; cases h1
    | true =>
      rw [h2] at h1
      obtain ⟨h3,h4⟩ := and2 h2
      have e1 := kc_inj h3
      have e2 := kc_inj h4
      subst e1
      subst e2
      cases h1
      rw [eqI_eq]
      refine ⟨by simp only [Instr.sameNow,if_true]; congr 1,fun e n => ?_⟩
      have : a = b' := by simpa using e
      subst this
      cases n <;> simp [Instr.sameBits]

def EsOk (w : World) (M : Nat → Prop) (β : Nat → Bk) (U : Us) (ents : List MapEntry) (es : List (D × D)) : Prop :=
  ents.length = es.length ∧ ∀ i,i < es.length → Rep w M β U (ents.getD i default).key (es.getD i (.junk,.junk)).1 ∧ Rep w M β U (ents.getD i default).val (es.getD i (.junk,.junk)).2

theorem EsOk.tail {M : Nat → Prop} {e : MapEntry} {ents : List MapEntry} {p : D × D} {es : List (D × D)} (H : EsOk w M β U (e :: ents) (p :: es)) : Rep w M β U e.key p.1 ∧ Rep w M β U e.val p.2 ∧ EsOk w M β U ents es := by
  refine ⟨(H.2 0 (by simp)).1,(H.2 0 (by simp)).2,by simpa using H.1,fun i hi => ?_⟩
  have := H.2 (i + 1) (by simp; omega)
  simpa using this
theorem EsOk.cons {M : Nat → Prop} {e : MapEntry} {ents : List MapEntry} {p : D × D} {es : List (D × D)} (h1 : Rep w M β U e.key p.1) (h2 : Rep w M β U e.val p.2) (H : EsOk w M β U ents es) : EsOk w M β U (e :: ents) (p :: es) := by
  refine ⟨by simpa using H.1,fun i hi => ?_⟩
  cases i with
  | zero => exact ⟨h1,h2⟩
  | succ i => simpa using H.2 i (by simp at hi; omega)

theorem find_ok {M : Nat → Prop} {dd : TypeDesc} {t : EK} (hk : keyK dd t) {vk vx : Value} {k x : D} (hvk : Rep w M β U vk k) (hvx : Rep w M β U vx x) :
    ∀ (ents : List MapEntry) (es : List (D × D)) (i0 : Nat),EsOk w M β U ents es →
      (findK t k es = .none → Instr.findNow dd vk ents i0 = some none ∧ ∀ c,EsOk w M β U (ents ++ [{ key := vk,val := vx,born := c }]) (putK t k x es)) ∧
      (∀ d,findK t k es = .some d → ∃ j v,Instr.findNow dd vk ents i0 = some (some (i0 + j,v)) ∧ j < ents.length ∧ Rep w M β U v d ∧ (∀ n,Instr.sameBits n (ents.getD j default).key vk = true) ∧
        EsOk w M β U (ents.modify j fun e => { e with key := vk,val := vx }) (putK t k x es)) := by
  intro ents
  induction ents with
  | nil =>
    intro es i0 H
    cases es with
    | cons p es => exact absurd H.1 (by simp)
    | nil => exact ⟨fun _ => ⟨rfl,fun c => EsOk.cons hvk hvx H⟩,fun d e => by cases e⟩
  | cons e ents ih =>
    intro es i0 H
    cases es with
    | nil => exact absurd H.1 (by simp)
    | cons p es =>
      obtain ⟨h1,h2,h3⟩ := H.tail
      have hf : findK t k (p :: es) = findK1 (findK t k es) p.2 (eq1 t k p.1) := rfl
      have hp : putK t k x (p :: es) = putK1 k x p es (putK t k x es) (eq1 t k p.1) := rfl
      rw [hf,hp]
      cases he : eq1 t k p.1 with
      | bad => exact ⟨fun h => (by cases h),fun d h => (by cases h)⟩
      | ok b =>
        obtain ⟨g1,g2⟩ := sameNow_ok hk hvk h1 he
        cases b with
        | true =>
          refine ⟨fun h => (by cases h),fun d h => ⟨0,e.val,?_,by simp,?_,?_,?_⟩⟩
          · simp [Instr.findNow,g1]
          · cases h; exact h2
          · intro n; exact g2 rfl n
          · exact EsOk.cons hvk hvx h3
        | false =>
          obtain ⟨i1,i2⟩ := ih es (i0 + 1) h3
          refine ⟨fun h => ?_,fun d h => ?_⟩
          · obtain ⟨i3,i4⟩ := i1 h
            refine ⟨?_,fun c => EsOk.cons h1 h2 (i4 c)⟩
            simp only [Instr.findNow,g1]
            exact i3
          · obtain ⟨j,v,i3,i4,i5,i6,i7⟩ := i2 d h
            refine ⟨j + 1,v,?_,by simpa using i4,i5,by simpa using i6,EsOk.cons h1 h2 i7⟩
            simp only [Instr.findNow,g1]
            rw [i3,Nat.add_assoc,Nat.add_comm 1 j]

theorem run_checkKey {t : TypeId} {dd : TypeDesc} {ek : EK} (hu : P.underlying t = some dd) (hk : keyK dd ek) (b : Bool) (n : Nat) (v : Value) : (Instr.checkKey b (n + 1) t v).run P w = .ok () w := by
  unfold Instr.checkKey
  rw [Sem.run_bind,run_underlying hu]
  rcases hk with ⟨rfl,_⟩ | ⟨rfl,_⟩ | ⟨k,rfl,_⟩ <;> rfl

theorem look_ok (I : Inv RC β U Fb h w) {T key elem : TypeId} {dd : TypeDesc} {t : EK} {ti : TypeInfo} {z : Value} (hu : P.underlying T = some (.map key elem)) (huk : P.underlying key = some dd) (hk : keyK dd t) (hi : P.info? elem = some ti) (hz : ti.zero = some z)
    {vx vi : Value} {x i d : D} {ok : Bool} {n' : Nat} {h' : Hps} (hx : Rep w (Mk β Fb h) β U vx x) (hvi : Rep w (Mk β Fb h) β U vi i) (hd : lookD N h t (ofV z) ok i x = .ok d n' h') :
    ∃ v,(Instr.lookup T vx vi ok).run P w = .ok v w ∧ Rep w (Mk β Fb h) β U v d ∧ h' = h := by
  have fin : ∀ (vd : Value) (dd : D) (b : Bool),Rep w (Mk β Fb h) β U vd dd → .ok (okT ok dd b) N h = Rd.ok d n' h' → Rep w (Mk β Fb h) β U (if ok then .tuple #[vd,.bool b] else vd) d ∧ h' = h := by
    intro vd dd b hv e
    cases ok with
    | false => cases e; exact ⟨hv,rfl⟩
    | true =>
      cases e
      refine ⟨.tup #[vd,.bool b] [dd,.bool b] rfl (fun i hi => ?_),rfl⟩
      match i with
      | 0 => exact hv
      | 1 => exact .bool
      | i + 2 => simp at hi; omega
  have core : ∀ (ents : Array MapEntry) (es : List (D × D)),EsOk w (Mk β Fb h) β U ents.toList es → lookF N h (ofV z) ok (findK t i es) = .ok d n' h' →
      ∃ v,((do
        Instr.checkKey ents.isEmpty 10000 key vi
        let (v,o) ← match ← Instr.findKey key vi ents.toList with
          | some (_,v) => pure (v,true)
          | none => pure (← zeroValue elem,false)
        pure (if ok then .tuple #[v,.bool o] else v) : Sem Value).run P w) = .ok v w ∧ Rep w (Mk β Fb h) β U v d ∧ h' = h := by
    intro ents es H hl
    obtain ⟨f1,f2⟩ := find_ok hk hvi hvi ents.toList es 0 H
    cases hf : findK t i es with
    | bad => rw [hf] at hl; cases hl
    | none =>
      rw [hf] at hl
      obtain ⟨g1,_⟩ := f1 hf
      refine ⟨_,?_,fin z (ofV z) false (ofV_rep _ _ _ _ _) hl⟩
      simp only [Sem.run_bind,run_checkKey huk hk,Result.andThen_ok,Instr.findKey,run_underlying huk,g1,Sem.run_pure,zeroValue,typeInfo,run_program,hi,hz]
    | some e =>
      rw [hf] at hl
      obtain ⟨j,v,g1,_,g3,_⟩ := f2 e hf
      refine ⟨_,?_,fin v e true g3 hl⟩
      simp only [Sem.run_bind,run_checkKey huk hk,Result.andThen_ok,Instr.findKey,run_underlying huk,g1,Sem.run_pure]
  cases hx with
  | nilm =>
    obtain ⟨v,h1,h2⟩ := core #[] [] ⟨rfl,fun i hi => absurd hi (Nat.not_lt_zero _)⟩ hd
    refine ⟨v,?_,h2⟩
    rw [← h1]
    unfold Instr.lookup
    simp only [Sem.run_bind,run_underlying hu,Result.andThen_ok,Sem.run_pure]
    try rfl
  | @mp _ r hr =>
    have h1 : lookR N h t (ofV z) ok i (getO h r) = .ok d n' h' := hd
    have ho := I.obj r
    cases hg : getO h r with
    | map es =>
      rw [hg] at h1 ho
      obtain ⟨ents,clock,h2,hst,h3,h4⟩ := ho
      obtain ⟨v,h5,h6⟩ := core ents es ⟨by simpa using h3,fun i hi => by simpa [getD_toList] using h4 i hi⟩ h1
      refine ⟨v,?_,h6⟩
      rw [← h5]
      unfold Instr.lookup
      simp only [Sem.run_bind,run_underlying hu,Result.andThen_ok,run_getM h2,Sem.run_pure]
      try rfl
    | _ => rw [hg] at h1; cases h1
  | _ => cases hd

theorem born_push {l : List MapEntry} {c : Nat} {k v : Value} {x : MapEntry} (hl : ∀ x,x ∈ l → x.born < c) (hx : x ∈ l ++ [{ key := k,val := v,born := c }]) : x.born < c + 1 := by
  rcases List.mem_append.1 hx with hx | hx
  · exact Nat.lt_succ_of_lt (hl x hx)
  · rw [List.mem_singleton] at hx
    rw [hx]
    exact Nat.lt_succ_self _
theorem born_modify {l : List MapEntry} {c j : Nat} {k v : Value} {x : MapEntry} (hl : ∀ x,x ∈ l → x.born < c) (hx : x ∈ l.modify j fun e => { e with key := k,val := v }) : x.born < c := by
  obtain ⟨i,hi,rfl⟩ := List.mem_iff_getElem.1 hx
  rw [List.getElem_modify]
  rw [List.length_modify] at hi
  split
  · exact hl l[i] (List.getElem_mem hi)
  · exact hl l[i] (List.getElem_mem hi)
theorem mupd_ok (I : Inv RC β U Fb h w) {T key elem : TypeId} {dd : TypeDesc} {t : EK} (hu : P.underlying T = some (.map key elem)) (huk : P.underlying key = some dd) (hk : keyK dd t)
    {vx vi vv : Value} {x i y d : D} {n' : Nat} {h' : Hps} (hx : Rep w (Mk β Fb h) β U vx x) (hvi : Rep w (Mk β Fb h) β U vi i) (hvv : Rep w (Mk β Fb h) β U vv y) (hd : mupdD N h t i y x = .ok d n' h') :
    ∃ w',(Instr.mapUpdate T vx vi vv).run P w = .ok () w' ∧ d = .junk ∧ Inv RC β (Ad U N) Fb h' w' ∧ Adv β U h w β (Ad U N) h' w' := by
  cases hx with
  | @mp _ r hr =>
    have h1 : mupdR N h t r i y (getO h r) = .ok d n' h' := hd
    have ho := I.obj r
    cases hg : getO h r with
    | map es =>
      rw [hg] at h1 ho
      replace h1 : mupdF N h r (putK t i y es) (findK t i es) = .ok d n' h' := h1
      obtain ⟨ents,clock,h2,hst,h3,h4⟩ := ho
      have hp : getO h r ≠ .none := by rw [hg]; exact fun h => by cases h
      have H : EsOk w (Mk β Fb h) β U ents.toList es := ⟨by simpa using h3,fun i hi => by simpa [getD_toList] using h4 i hi⟩
      obtain ⟨f1,f2⟩ := find_ok hk hvi hvv ents.toList es 0 H
      have hlt := (Array.getElem?_eq_some_iff.1 h2).1
      have fin : ∀ (ents' : Array MapEntry) (clock' : Nat),(∀ x,x ∈ ents'.toList → x.born < clock') → EsOk w (Mk β Fb h) β U ents'.toList (putK t i y es) → mupdF N h r (putK t i y es) (findK t i es) = .ok d n' h' → findK t i es ≠ .bad →
          d = .junk ∧ Inv RC β (Ad U N) Fb h' { w with heap := w.heap.setIfInBounds (β r).b (.map ents' clock') } ∧ Adv β U h w β (Ad U N) h' { w with heap := w.heap.setIfInBounds (β r).b (.map ents' clock') } := by
        intro ents' clock' hst' H' e hnb
        have e' : d = .junk ∧ h' = setO h r (.map (putK t i y es)) := by
          cases hf : findK t i es with
          | bad => exact absurd hf hnb
          | none => rw [hf] at e; cases e; exact ⟨rfl,rfl⟩
          | some q => rw [hf] at e; cases e; exact ⟨rfl,rfl⟩
        obtain ⟨rfl,rfl⟩ := e'
        have hoth : ∀ b,b ≠ (β r).b → (w.heap.setIfInBounds (β r).b (.map ents' clock'))[b]? = w.heap[b]? := fun b hb => by
          rw [Array.getElem?_setIfInBounds_ne (fun e => hb e.symm)]
        have hA := Adv.turn (N := N) I hp (.map (putK t i y es)) (w' := { w with heap := w.heap.setIfInBounds (β r).b (.map ents' clock') }) rfl rfl rfl (by simp) hoth
        refine ⟨rfl,Inv.turn I hp _ rfl rfl rfl (by simp) hoth ⟨ents',clock',by simp [hlt],hst',?_,fun j hj => ?_⟩,hA⟩
        · have := H'.1; simpa using this
        · have := H'.2 j hj
          rw [getD_toList] at this
          exact ⟨this.1.adv hA (Sub.refl _) _ (Sub.ad _ _),this.2.adv hA (Sub.refl _) _ (Sub.ad _ _)⟩
      cases hf : findK t i es with
      | bad => rw [hf] at h1; cases h1
      | none =>
        obtain ⟨g1,g2⟩ := f1 hf
        obtain ⟨i1,i2,i3⟩ := fin (ents.push { key := vi,val := vv,born := clock }) (clock + 1) (fun x hx => born_push hst (by rwa [Array.toList_push] at hx)) (by rw [Array.toList_push]; exact g2 clock) h1 (by rw [hf]; exact fun h => by cases h)
        refine ⟨_,?_,i1,i2,i3⟩
        unfold Instr.mapUpdate
        simp only [Sem.run_bind,run_underlying hu,Result.andThen_ok,run_getM h2,run_checkKey huk hk,Instr.findKey,run_underlying huk,g1,Sem.run_pure]
        exact run_setM _ h2
      | some e =>
        obtain ⟨j,v,g1,g2,g3,g4,g5⟩ := f2 e hf
        rw [Nat.zero_add] at g1
        have hjs : j < ents.size := by simpa using g2
        have hkey : ((ents[j]?).map (·.key)).getD vi = (ents.toList.getD j default).key := by simp [List.getD_eq_getElem?_getD,hjs]
        obtain ⟨i1,i2,i3⟩ := fin (ents.modify j fun e => { e with key := vi,val := vv }) clock (fun x hx => by rw [Array.toList_modify] at hx; exact born_modify hst hx) (by rw [Array.toList_modify]; exact g5) h1 (by rw [hf]; exact fun h => by cases h)
        refine ⟨_,?_,i1,i2,i3⟩
        unfold Instr.mapUpdate
        simp only [Sem.run_bind,run_underlying hu,Result.andThen_ok,run_getM h2,run_checkKey huk hk,Instr.findKey,run_underlying huk,g1,Sem.run_pure,Instr.keyThatStays,hkey,g4,if_true]
        exact run_setM _ h2
    | _ => rw [hg] at h1; cases h1
  | _ => cases hd

theorem del_ok {M : Nat → Prop} {dd : TypeDesc} {t : EK} (hk : keyK dd t) {vk : Value} {k : D} (hvk : Rep w M β U vk k) :
    ∀ (ents : List MapEntry) (es : List (D × D)) (i0 : Nat),EsOk w M β U ents es →
      (findK t k es = .none → Instr.findNow dd vk ents i0 = some none ∧ delK t k es = es) ∧
      (∀ d,findK t k es = .some d → ∃ j v,Instr.findNow dd vk ents i0 = some (some (i0 + j,v)) ∧ j < ents.length ∧ EsOk w M β U (ents.eraseIdx j) (delK t k es)) := by
  intro ents
  induction ents with
  | nil =>
    intro es i0 H
    cases es with
    | cons p es => exact absurd H.1 (by simp)
    | nil => exact ⟨fun _ => ⟨rfl,rfl⟩,fun d e => by cases e⟩
  | cons e ents ih =>
    intro es i0 H
    cases es with
    | nil => exact absurd H.1 (by simp)
    | cons p es =>
      obtain ⟨h1,h2,h3⟩ := H.tail
      have hf : findK t k (p :: es) = findK1 (findK t k es) p.2 (eq1 t k p.1) := rfl
      have hp : delK t k (p :: es) = delK1 p es (delK t k es) (eq1 t k p.1) := rfl
      rw [hf,hp]
      cases he : eq1 t k p.1 with
      | bad => exact ⟨fun h => (by cases h),fun d h => (by cases h)⟩
      | ok b =>
        obtain ⟨g1,g2⟩ := sameNow_ok hk hvk h1 he
        cases b with
        | true =>
          refine ⟨fun h => (by cases h),fun d h => ⟨0,e.val,?_,by simp,?_⟩⟩
          · simp [Instr.findNow,g1]
          · exact h3
        | false =>
          obtain ⟨i1,i2⟩ := ih es (i0 + 1) h3
          refine ⟨fun h => ?_,fun d h => ?_⟩
          · obtain ⟨i3,i4⟩ := i1 h
            refine ⟨?_,congrArg (p :: ·) i4⟩
            simp only [Instr.findNow,g1]
            exact i3
          · obtain ⟨j,v,i3,i4,i5⟩ := i2 d h
            refine ⟨j + 1,v,?_,by simpa using i4,EsOk.cons h1 h2 i5⟩
            simp only [Instr.findNow,g1]
            rw [i3,Nat.add_assoc,Nat.add_comm 1 j]

theorem mdel_ok (I : Inv RC β U Fb h w) {T key elem ty : TypeId} {ts : List TypeId} {dd : TypeDesc} {t : EK} (hu : P.underlying T = some (.map key elem)) (huk : P.underlying key = some dd) (hk : keyK dd t)
    {vx vi : Value} {x i d : D} {n' : Nat} {h' : Hps} (hx : Rep w (Mk β Fb h) β U vx x) (hvi : Rep w (Mk β Fb h) β U vi i) (hd : mdelD N h t i x = .ok d n' h') :
    ∃ w',(Builtin.delete_ (T :: ts).toArray ty #[vx,vi]).run P w = .ok (.tuple #[]) w' ∧ d = .tup [] ∧ Inv RC β (Ad U N) Fb h' w' ∧ Adv β U h w β (Ad U N) h' w' := by
  cases hx with
  | @mp _ r hr =>
    have h1 : mdelR N h t r i (getO h r) = .ok d n' h' := hd
    have ho := I.obj r
    cases hg : getO h r with
    | map es =>
      rw [hg] at h1 ho
      replace h1 : mdelF N h r (delK t i es) (findK t i es) = .ok d n' h' := h1
      obtain ⟨ents,clock,h2,hst,h3,h4⟩ := ho
      have hp : getO h r ≠ .none := by rw [hg]; exact fun h => by cases h
      have H : EsOk w (Mk β Fb h) β U ents.toList es := ⟨by simpa using h3,fun i hi => by simpa [getD_toList] using h4 i hi⟩
      obtain ⟨f1,f2⟩ := del_ok hk hvi ents.toList es 0 H
      have hlt := (Array.getElem?_eq_some_iff.1 h2).1
      have fin : ∀ (ents' : Array MapEntry) (clock' : Nat),(∀ x,x ∈ ents'.toList → x.born < clock') → EsOk w (Mk β Fb h) β U ents'.toList (delK t i es) → mdelF N h r (delK t i es) (findK t i es) = .ok d n' h' → findK t i es ≠ .bad →
          d = .tup [] ∧ Inv RC β (Ad U N) Fb h' { w with heap := w.heap.setIfInBounds (β r).b (.map ents' clock') } ∧ Adv β U h w β (Ad U N) h' { w with heap := w.heap.setIfInBounds (β r).b (.map ents' clock') } := by
        intro ents' clock' hst' H' e hnb
        have e' : d = .tup [] ∧ h' = setO h r (.map (delK t i es)) := by
          cases hf : findK t i es with
          | bad => exact absurd hf hnb
          | none => rw [hf] at e; cases e; exact ⟨rfl,rfl⟩
          | some q => rw [hf] at e; cases e; exact ⟨rfl,rfl⟩
        obtain ⟨rfl,rfl⟩ := e'
        have hoth : ∀ b,b ≠ (β r).b → (w.heap.setIfInBounds (β r).b (.map ents' clock'))[b]? = w.heap[b]? := fun b hb => by
          rw [Array.getElem?_setIfInBounds_ne (fun e => hb e.symm)]
        have hA := Adv.turn (N := N) I hp (.map (delK t i es)) (w' := { w with heap := w.heap.setIfInBounds (β r).b (.map ents' clock') }) rfl rfl rfl (by simp) hoth
        refine ⟨rfl,Inv.turn I hp _ rfl rfl rfl (by simp) hoth ⟨ents',clock',by simp [hlt],hst',?_,fun j hj => ?_⟩,hA⟩
        · have := H'.1; simpa using this
        · have := H'.2 j hj
          rw [getD_toList] at this
          exact ⟨this.1.adv hA (Sub.refl _) _ (Sub.ad _ _),this.2.adv hA (Sub.refl _) _ (Sub.ad _ _)⟩
      cases hf : findK t i es with
      | bad => rw [hf] at h1; cases h1
      | none =>
        obtain ⟨g1,g2⟩ := f1 hf
        obtain ⟨i1,i2,i3⟩ := fin ents clock hst (by rw [g2]; exact H) h1 (by rw [hf]; exact fun h => by cases h)
        refine ⟨_,?_,i1,i2,i3⟩
        simp [Builtin.delete_,run_underlying hu,run_getM h2,run_checkKey huk hk,Instr.findKey,run_underlying huk,g1,run_setM _ h2]
      | some e =>
        obtain ⟨j,v,g1,g2,g3⟩ := f2 e hf
        rw [Nat.zero_add] at g1
        obtain ⟨i1,i2,i3⟩ := fin (ents.eraseIdxIfInBounds j) clock (fun x hx => hst x (by rw [Array.toList_eraseIdxIfInBounds] at hx; exact List.mem_of_mem_eraseIdx hx)) (by rw [Array.toList_eraseIdxIfInBounds]; exact g3) h1 (by rw [hf]; exact fun h => by cases h)
        refine ⟨_,?_,i1,i2,i3⟩
        simp [Builtin.delete_,run_underlying hu,run_getM h2,run_checkKey huk hk,Instr.findKey,run_underlying huk,g1,run_setM _ h2]
    | _ => rw [hg] at h1; cases h1
  | _ => cases hd

theorem mkif_ok {M : Nat → Prop} {T : TypeId} {dd : TypeDesc} (hu : P.underlying T = some dd) (hn : ∀ x,dd ≠ .interface x) {vx : Value} {x : D} (hx : Rep w M β U vx x) :
    ∃ v,(Instr.makeInterface T vx).run P w = .ok v w ∧ Rep w M β U v (.iface T x) := by
  refine ⟨.iface T vx,?_,.iface hx⟩
  unfold Instr.makeInterface
  rw [Sem.run_bind,run_underlying hu,Result.andThen_ok]
  cases dd <;> first | rfl | exact absurd rfl (hn _)
theorem tas_ok {M : Nat → Prop} {T xT : TypeId} {dd : TypeDesc} {ti : TypeInfo} {z : Value} (hu : P.underlying T = some dd) (hn : ∀ x,dd ≠ .interface x) (hi : P.info? T = some ti) (hz : ti.zero = some z) {ok : Bool} {vx : Value} {x d : D} {n' : Nat} {h' : Hps}
    (hx : Rep w M β U vx x) (hd : tasD N h T ok (ofV z) x = .ok d n' h') : ∃ v,(Instr.typeAssert vx xT T ok).run P w = .ok v w ∧ Rep w M β U v d ∧ h' = h := by
  have hy : ∀ {v : Value} {y : D},Rep w M β U v y → tasY N h ok y = .ok d n' h' → Rep w M β U (if ok then .tuple #[v,.bool true] else v) d ∧ h' = h := by
    intro v y hv e
    have e' : .ok (okT ok y true) N h = Rd.ok d n' h' := by cases y <;> first | exact e | cases e
    cases ok with
    | false => cases e'; exact ⟨hv,rfl⟩
    | true =>
      cases e'
      refine ⟨.tup #[v,.bool true] [y,.bool true] rfl (fun i hi => ?_),rfl⟩
      match i with
      | 0 => exact hv
      | 1 => exact .bool
      | i + 2 => simp at hi; omega
  have hno : tasN N h ok (ofV z) = .ok d n' h' → ok = true ∧ Rep w M β U (.tuple #[z,.bool false]) d ∧ h' = h := by
    intro e
    cases ok with
    | false => cases e
    | true =>
      cases e
      refine ⟨rfl,.tup #[z,.bool false] [ofV z,.bool false] rfl (fun i hi => ?_),rfl⟩
      match i with
      | 0 => exact ofV_rep _ _ _ _ _
      | 1 => exact .bool
      | i + 2 => simp at hi; omega
  have hrun : ∀ v : Value,(Instr.typeAssert v xT T ok).run P w = ((match v with
      | .nilIface => (if ok then (do pure (.tuple #[← zeroValue T,.bool false]) : Sem Value) else runtimePanic (.typeAssertion (some xT) none T ""))
      | .iface t v => if t = T then pure (if ok then .tuple #[v,.bool true] else v) else (if ok then (do pure (.tuple #[← zeroValue T,.bool false]) : Sem Value) else runtimePanic (.typeAssertion (some xT) (some t) T ""))
      | _ => stuck "TypeAssert: interface value expected" : Sem Value)).run P w := by
    intro v
    unfold Instr.typeAssert
    rw [Sem.run_bind,run_underlying hu,Result.andThen_ok]
    cases dd <;> first | exact absurd rfl (hn _) | (cases v <;> rfl)
  have hzr : (zeroValue T).run P w = .ok z w := by simp only [zeroValue,typeInfo,Sem.run_bind,run_program,Result.andThen_ok,hi,Sem.run_pure,hz]
  cases hx with
  | nili =>
    obtain ⟨h1,h2,h3⟩ := hno hd
    subst h1
    refine ⟨_,?_,h2,h3⟩
    rw [hrun]
    simp only [if_true,Sem.run_bind,hzr,Result.andThen_ok,Sem.run_pure]
  | @iface _ t v y hv =>
    have hd' : Bool.rec (motive := fun _ => Rd) (tasN N h ok (ofV z)) (tasY N h ok y) (Nat.beq T t) = .ok d n' h' := hd
    rw [hrun]
    cases hb : Nat.beq T t with
    | true =>
      rw [hb] at hd'
      have ht := Nat.eq_of_beq_eq_true hb
      obtain ⟨h1,h2⟩ := hy hv hd'
      refine ⟨_,?_,h1,h2⟩
      show ((if t = T then pure (if ok then .tuple #[v,.bool true] else v) else _ : Sem Value)).run P w = _
      rw [if_pos ht.symm]
      rfl
    | false =>
      rw [hb] at hd'
      have ht : ¬ t = T := fun e => by rw [e,Nat.beq_refl] at hb; cases hb
      obtain ⟨h1,h2,h3⟩ := hno hd'
      subst h1
      refine ⟨_,?_,h2,h3⟩
      show ((if t = T then _ else _ : Sem Value)).run P w = _
      rw [if_neg ht]
      simp only [if_true,Sem.run_bind,hzr,Result.andThen_ok,Sem.run_pure]
  | _ => cases hd
theorem mrng_ok (I : Inv RC β U Fb h w) (hN : ¬ U N) {T key elem : TypeId} (hu : P.underlying T = some (.map key elem)) {vx : Value} {x d : D} {n' : Nat} {h' : Hps} (hx : Rep w (Mk β Fb h) β U vx x) (hd : mrngD N h x = .ok d n' h') :
    ∃ v w' β',(Instr.range T vx).run P w = .ok v w' ∧ Rep w' (Mk β' Fb h') β' (Ad U N) v d ∧ Inv RC β' (Ad U N) Fb h' w' ∧ Adv β U h w β' (Ad U N) h' w' := by
  cases hx with
  | @mp _ q hq =>
    have hd' : mrngR N h q (getO h q) = .ok d n' h' := hd
    have ho := I.obj q
    cases hg : getO h q with
    | map es =>
      rw [hg] at hd' ho
      cases hd'
      obtain ⟨ents,clock,h2,_⟩ := ho
      have g : Grew w { w with heap := w.heap.push (.mapIter (some (β q).b) clock #[] clock) } (.mapIter (some (β q).b) clock #[] clock) := ⟨rfl,rfl,rfl,rfl⟩
      have hA := Adv.new I hN g (.mit q) 0 0
      have hqn : q ≠ N := fun e => hN (e ▸ hq)
      refine ⟨.pointer (some ⟨w.heap.size,0,none⟩),_,upd β N ⟨w.heap.size,0,0⟩,?_,?_,Inv.new I hN g (.mit q) 0 0 ⟨.inl hq,clock,by rw [upd_ne _ _ hqn]; exact g.new⟩,hA⟩
      · simp only [Instr.range,Sem.run_bind,run_underlying hu,Result.andThen_ok,run_getM h2,Sem.run_pure,newObj,Sem.run]
      · have := Rep.ptr (w := { w with heap := w.heap.push (.mapIter (some (β q).b) clock #[] clock) }) (M := Mk (upd β N ⟨w.heap.size,0,0⟩) Fb ((N,.mit q) :: h)) (β := upd β N ⟨w.heap.size,0,0⟩) (N := Ad U N) (r := N) 0 0 (.inr rfl)
        rw [upd_same] at this
        simpa using this
    | _ => rw [hg] at hd'; cases hd'
  | _ => cases hd

theorem mkmap_ok (I : Inv RC β U Fb h w) (hN : ¬ U N) (T : TypeId) :
    ∃ v w' β',(Instr.makeMap T none).run P w = .ok v w' ∧ Rep w' (Mk β' Fb ((N,.map []) :: h)) β' (Ad U N) v (.mp N) ∧ Inv RC β' (Ad U N) Fb ((N,.map []) :: h) w' ∧ Adv β U h w β' (Ad U N) ((N,.map []) :: h) w' := by
  have g : Grew w { w with heap := w.heap.push (.map #[] 0) } (.map #[] 0) := ⟨rfl,rfl,rfl,rfl⟩
  have hA := Adv.new I hN g (.map []) 0 0
  refine ⟨.map (some w.heap.size),_,upd β N ⟨w.heap.size,0,0⟩,rfl,?_,Inv.new I hN g (.map []) 0 0 ⟨#[],0,g.new,(fun x hx => by simp at hx),rfl,fun i hi => absurd hi (Nat.not_lt_zero _)⟩,hA⟩
  have := Rep.mp (w := { w with heap := w.heap.push (.map #[] 0) }) (M := Mk (upd β N ⟨w.heap.size,0,0⟩) Fb ((N,.map []) :: h)) (β := upd β N ⟨w.heap.size,0,0⟩) (N := Ad U N) (r := N) (.inr rfl)
  rw [upd_same] at this
  exact this
end
end Go.Proofs.YtpbpmpabndgeeaaDoor
