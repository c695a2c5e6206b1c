/- Each operation, run. Fourth part: numbers, truths, texts, '=='. No condition. -/
import Derived.Test.YtdijijblccmfbaaA5
set_option linter.unusedSimpArgs false
set_option linter.unusedVariables false
namespace Go.Proofs.Ytdijijblccmfbaa
open Go

theorem ltI_eq (a b : Int) : ltI a b = decide (a < b) := by
  cases a with
  | ofNat m =>
    cases b with
    | ofNat n =>
      show Nat.blt m n = _
      rw [blt_iff]
      by_cases h : m < n
      · rw [decide_eq_true h, decide_eq_true (by first | omega | (simp only [Int.ofNat_eq_natCast]; omega))]
      · rw [decide_eq_false h, decide_eq_false (by first | omega | (simp only [Int.ofNat_eq_natCast]; omega))]
    | negSucc n => exact (decide_eq_false (by first | omega | (simp only [Int.ofNat_eq_natCast]; omega))).symm
  | negSucc m =>
    cases b with
    | ofNat n => exact (decide_eq_true (by first | omega | (simp only [Int.ofNat_eq_natCast]; omega))).symm
    | negSucc n =>
      show Nat.blt n m = _
      rw [blt_iff]
      by_cases h : n < m
      · rw [decide_eq_true h, decide_eq_true (by first | omega | (simp only [Int.ofNat_eq_natCast]; omega))]
      · rw [decide_eq_false h, decide_eq_false (by first | omega | (simp only [Int.ofNat_eq_natCast]; omega))]
theorem eqI_eq (a b : Int) : eqI a b = decide (a = b) := by
  cases a with
  | ofNat m =>
    cases b with
    | ofNat n =>
      show Nat.beq m n = _
      rw [beq_iff]
      by_cases h : m = n
      · rw [decide_eq_true h, decide_eq_true (by first | omega | (simp only [Int.ofNat_eq_natCast]; omega))]
      · rw [decide_eq_false h, decide_eq_false (by first | omega | (simp only [Int.ofNat_eq_natCast]; omega))]
    | negSucc n => exact (decide_eq_false (by first | omega | (simp only [Int.ofNat_eq_natCast]; omega))).symm
  | negSucc m =>
    cases b with
    | ofNat n => exact (decide_eq_false (by first | omega | (simp only [Int.ofNat_eq_natCast]; omega))).symm
    | negSucc n =>
      show Nat.beq m n = _
      rw [beq_iff]
      by_cases h : m = n
      · rw [decide_eq_true h, decide_eq_true (by first | omega | (simp only [Int.ofNat_eq_natCast]; omega))]
      · rw [decide_eq_false h, decide_eq_false (by first | omega | (simp only [Int.ofNat_eq_natCast]; omega))]
theorem kc_inj {a b : IntKind} (h : Nat.beq (kc a) (kc b) = true) : a = b := by
  cases a <;> cases b <;> first | rfl | cases h
theorem wr_eq (k : IntKind) (n : Int) : wr k n = k.wrap n := by
  cases k with
  | i64 =>
    show wr64 n = _
    unfold wr64
    cases n with
    | ofNat m =>
      show Bool.rec (motive := fun _ => Int) (IntKind.i64.wrap (.ofNat m)) (.ofNat m) (Nat.blt m two62) = _
      rw [blt_iff]
      by_cases h : m < two62
      · rw [decide_eq_true h, IntKind.wrap_i64]
        unfold two62 at h
        show Int.ofNat m = _
        simp only [Int.ofNat_eq_natCast]
        omega
      · rw [decide_eq_false h]
    | negSucc m =>
      show Bool.rec (motive := fun _ => Int) (IntKind.i64.wrap (.negSucc m)) (.negSucc m) (Nat.blt m two62) = _
      rw [blt_iff]
      by_cases h : m < two62
      · rw [decide_eq_true h, IntKind.wrap_i64]
        unfold two62 at h
        show Int.negSucc m = _
        omega
      · rw [decide_eq_false h]
  | _ => rfl
theorem eqB_eq (a b : Bool) : eqB a b = (a == b) := by cases a <;> cases b <;> rfl

theorem sb_inj {a b : ByteArray} (h : sb a = sb b) : a = b := by
  obtain ⟨⟨x⟩⟩ := a
  obtain ⟨⟨y⟩⟩ := b
  have h' : x.map UInt8.toNat = y.map UInt8.toNat := h
  clear h
  have : x = y := by
    induction x generalizing y with
    | nil => cases y with
      | nil => rfl
      | cons b y => cases h'
    | cons a x ih => cases y with
      | nil => cases h'
      | cons b y =>
        simp only [List.map_cons, List.cons.injEq] at h'
        rw [UInt8.toNat_inj.1 h'.1, ih y h'.2]
  rw [this]
theorem sb_beq (a b : ByteArray) : (a.toList == b.toList) = (sb a == sb b) := by
  by_cases h : sb a = sb b
  · rw [sb_inj h, beq_self_eq_true, beq_self_eq_true]
  · rw [beq_eq_false_iff_ne.2 h, beq_eq_false_iff_ne]
    intro e
    rw [ByteArray.toList_eq, ByteArray.toList_eq] at e
    exact h (by unfold sb; rw [e])
theorem sb_len (a : ByteArray) : (sb a).length = a.size := by
  unfold sb
  simp only [List.length_map, Array.length_toList]
  rfl
theorem sb_append (a b : ByteArray) : sb (a ++ b) = sb a ++ sb b := by
  unfold sb
  rw [ByteArray.data_append]
  simp

section
variable {P : Program} {w : World}

/-- numbers -/
theorem binI_ok {op : BinOp} {t : TypeId} {k : IntKind} {a b : Int} {d : D} (hd : binI op k a b = d) (hj : d ≠ .junk) (hs : op ≠ .shl ∧ op ≠ .shr) :
    ∃ v, (binOp op t (.int k a) (.int k b)).run P w = .ok v w ∧ ∀ M β U, Rep w M β U v d := by
  cases op with
  | add => exact ⟨_, by simp [binOp, Op.intArith]; rfl, fun M β U => by rw [← hd]; show Rep w M β U _ (.int k (wr k (a + b))); rw [wr_eq]; exact .int⟩
  | sub => exact ⟨_, by simp [binOp, Op.intArith]; rfl, fun M β U => by rw [← hd]; show Rep w M β U _ (.int k (wr k (a - b))); rw [wr_eq]; exact .int⟩
  | mul => exact ⟨_, by simp [binOp, Op.intArith]; rfl, fun M β U => by rw [← hd]; show Rep w M β U _ (.int k (wr k (a * b))); rw [wr_eq]; exact .int⟩
  | quo =>
    have h1 : Bool.rec (motive := fun _ => D) (.int k (wr k (Int.tdiv a b))) .junk (eqI b (.ofNat 0)) = d := hd
    rw [eqI_eq] at h1
    by_cases hb : b = 0
    · rw [decide_eq_true (by simpa using hb)] at h1; exact absurd h1.symm hj
    · rw [decide_eq_false (by simpa using hb), wr_eq] at h1
      exact ⟨_, by simp [binOp, Op.intDiv, hb]; rfl, fun M β U => by rw [← h1]; exact .int⟩
  | rem =>
    have h1 : Bool.rec (motive := fun _ => D) (.int k (Int.tmod a b)) .junk (eqI b (.ofNat 0)) = d := hd
    rw [eqI_eq] at h1
    by_cases hb : b = 0
    · rw [decide_eq_true (by simpa using hb)] at h1; exact absurd h1.symm hj
    · rw [decide_eq_false (by simpa using hb)] at h1
      exact ⟨_, by simp [binOp, Op.intDiv, hb]; rfl, fun M β U => by rw [← h1]; exact .int⟩
  | lss => exact ⟨_, by simp [binOp, Op.intCmp]; rfl, fun M β U => by rw [← hd]; show Rep w M β U _ (.bool (ltI a b)); rw [ltI_eq]; exact .bool⟩
  | leq =>
    refine ⟨.bool (decide (a ≤ b)), by simp [binOp, Op.intCmp], fun M β U => ?_⟩
    rw [← hd]
    show Rep w M β U _ (.bool (!(ltI b a)))
    have : (!(ltI b a)) = decide (a ≤ b) := by
      rw [ltI_eq, ← decide_not]
      by_cases h : a ≤ b
      · rw [decide_eq_true h, decide_eq_true (by omega)]
      · rw [decide_eq_false h, decide_eq_false (by omega)]
    rw [this]; exact .bool
  | gtr => exact ⟨.bool (decide (b < a)), by simp [binOp, Op.intCmp], fun M β U => by rw [← hd]; show Rep w M β U _ (.bool (ltI b a)); rw [ltI_eq]; exact .bool⟩
  | geq =>
    refine ⟨.bool (decide (b ≤ a)), by simp [binOp, Op.intCmp], fun M β U => ?_⟩
    rw [← hd]
    show Rep w M β U _ (.bool (!(ltI a b)))
    have : (!(ltI a b)) = decide (b ≤ a) := by
      rw [ltI_eq, ← decide_not]
      by_cases h : b ≤ a
      · rw [decide_eq_true h, decide_eq_true (by omega)]
      · rw [decide_eq_false h, decide_eq_false (by omega)]
    rw [this]; exact .bool
  | eql =>
    refine ⟨.bool (a == b), by simp [binOp, Op.intCmp], fun M β U => ?_⟩
    rw [← hd]
    show Rep w M β U _ (.bool (eqI a b))
    have : eqI a b = (a == b) := by rw [eqI_eq]; rfl
    rw [this]; exact .bool
  | neq =>
    refine ⟨.bool (a != b), by simp [binOp, Op.intCmp], fun M β U => ?_⟩
    rw [← hd]
    show Rep w M β U _ (.bool (!(eqI a b)))
    have : (!(eqI a b)) = (a != b) := by rw [eqI_eq]; rfl
    rw [this]; exact .bool
  | and => exact ⟨_, by simp [binOp, Op.intBits]; rfl, fun M β U => by rw [← hd]; exact .int⟩
  | or => exact ⟨_, by simp [binOp, Op.intBits]; rfl, fun M β U => by rw [← hd]; exact .int⟩
  | xor => exact absurd hd.symm hj
  | andNot => exact absurd hd.symm hj
  | shl => exact absurd rfl hs.1
  | shr => exact absurd rfl hs.2

theorem shD_ok {op : BinOp} {t : TypeId} {k k' : IntKind} {a b : Int} {d : D} (hd : shD op k a b = d) (hj : d ≠ .junk) (hs : op = .shl ∨ op = .shr) :
    ∃ v, (binOp op t (.int k a) (.int k' b)).run P w = .ok v w ∧ ∀ M β U, Rep w M β U v d := by
  cases b with
  | negSucc m => exact absurd hd.symm hj
  | ofNat m =>
    have hn : ¬ (Int.ofNat m < 0) := by simp only [Int.ofNat_eq_natCast]; omega
    rcases hs with rfl | rfl
    · exact ⟨_, by simp only [binOp, Op.shift, if_neg hn]; rfl, fun M β U => by rw [← hd]; exact .int⟩
    · exact ⟨_, by simp only [binOp, Op.shift, if_neg hn]; rfl, fun M β U => by rw [← hd]; exact .int⟩

theorem binS_ok {op : BinOp} {t : TypeId} {a b : ByteArray} {d : D} (hd : binS op (sb a) (sb b) = d) (hj : d ≠ .junk) :
    ∃ v, (binOp op t (.string a) (.string b)).run P w = .ok v w ∧ ∀ M β U, Rep w M β U v d := by
  cases op with
  | add =>
    have h1 : Bool.rec (motive := fun _ => D) .junk (.str (appN (sb a) (sb b))) (Nat.blt (lenN (sb a) + lenN (sb b)) two62) = d := hd
    have hb := boolrec_D (by rw [h1]; exact hj)
    rw [hb] at h1
    rw [blt_iff, lenN_eq, lenN_eq, sb_len, sb_len] at hb
    have hlt := of_decide_eq_true hb
    unfold two62 at hlt
    refine ⟨.string (a ++ b), ?_, fun M β U => ?_⟩
    · have : ¬ (((a.size + b.size : Nat) : Int) > IntKind.i64.max) := by rw [IntKind.max_i64]; omega
      simp only [binOp, Op.stringOp, if_neg this, Sem.run_pure]
    · rw [← h1]
      show Rep w M β U _ (.str (appN (sb a) (sb b)))
      rw [appN_eq, ← sb_append]
      exact .str _
  | eql =>
    refine ⟨.bool (a.toList == b.toList), by simp [binOp, Op.stringOp], fun M β U => ?_⟩
    rw [← hd]
    show Rep w M β U _ (.bool (eqN (sb a) (sb b)))
    rw [eqN_eq, sb_beq]
    exact .bool
  | neq =>
    refine ⟨.bool (!(a.toList == b.toList)), by simp [binOp, Op.stringOp], fun M β U => ?_⟩
    rw [← hd]
    show Rep w M β U _ (.bool (!(eqN (sb a) (sb b))))
    rw [eqN_eq, sb_beq]
    exact .bool
  | _ => exact absurd hd.symm hj

theorem binD_ok {M : Nat → Prop} {β : Nat → Bk} {U : Us} {op : BinOp} {t : TypeId} {vx vy : Value} {x y d : D} (hx : Rep w M β U vx x) (hy : Rep w M β U vy y) (hd : binD op x y = d) (hj : d ≠ .junk) :
    ∃ v, (binOp op t vx vy).run P w = .ok v w ∧ (∀ M β U, Rep w M β U v d) ∧ ∀ o1 o2, (eqGuard op t o1 o2 vx vy).run P w = .ok () w := by
  cases hx with
  | int =>
    cases hy with
    | @int _ k' b =>
      rename_i k a
      have hd' : binK op k a k' b = d := hd
      have hg : ∀ o1 o2, (eqGuard op t o1 o2 (.int k a) (.int k' b)).run P w = .ok () w := by intro o1 o2; cases op <;> rfl
      have key : ∀ op, op ≠ .shl → op ≠ .shr → Bool.rec (motive := fun _ => D) .junk (binI op k a b) (Nat.beq (kc k) (kc k')) = d → ∃ v, (binOp op t (.int k a) (.int k' b)).run P w = .ok v w ∧ ∀ M β U, Rep w M β U v d := by
        intro op h1 h2 h
        have hb := boolrec_D (by rw [h]; exact hj)
        rw [hb] at h
        have := kc_inj hb
        subst this
        exact binI_ok h hj ⟨h1, h2⟩
      by_cases h1 : op = .shl
      · subst h1
        obtain ⟨v, h2, h3⟩ := shD_ok (P := P) (w := w) (t := t) (k' := k') (show shD .shl k a b = d from hd') hj (.inl rfl)
        exact ⟨v, h2, h3, hg⟩
      · by_cases h2 : op = .shr
        · subst h2
          obtain ⟨v, h2, h3⟩ := shD_ok (P := P) (w := w) (t := t) (k' := k') (show shD .shr k a b = d from hd') hj (.inr rfl)
          exact ⟨v, h2, h3, hg⟩
        · obtain ⟨v, h3, h4⟩ := key op h1 h2 (by cases op <;> first | exact hd' | exact absurd rfl h1 | exact absurd rfl h2)
          exact ⟨v, h3, h4, hg⟩
    | _ => exact absurd hd.symm hj
  | str a =>
    cases hy with
    | str b =>
      obtain ⟨v, h1, h2⟩ := binS_ok (P := P) (w := w) (t := t) hd hj
      exact ⟨v, h1, h2, by intro o1 o2; cases op <;> rfl⟩
    | _ => exact absurd hd.symm hj
  | _ => exact absurd hd.symm hj

/-! ### '==' -/
theorem eq1_ok {M : Nat → Prop} {β : Nat → Bk} {U : Us} {t : TypeId} {dd : TypeDesc} {ek : EK} {vx vy : Value} {x y : D} {b : Bool} (hu : P.underlying t = some dd) (hk : ekS dd = some ek) (hx : Rep w M β U vx x) (hy : Rep w M β U vy y)
    (hd : eq1 ek x y = .ok b) (n : Nat) : (Op.equalIn (n + 1) t vx vy).run P w = .ok b w := by
  unfold Op.equalIn
  rw [Sem.run_bind, run_underlying hu, Result.andThen_ok]
  cases dd with
  | bool =>
    cases hk
    cases hx <;> first | (cases hd; done) | skip
    cases hy <;> first | (cases hd; done) | skip
    cases hd
    rw [eqB_eq]
    rfl
  | string =>
    cases hk
    cases hx <;> first | (cases hd; done) | skip
    cases hy <;> first | (cases hd; done) | skip
    cases hd
    rename_i a b
    rw [eqN_eq]
    show Sem.run P (pure (a == b)) w = _
    rw [Sem.run_pure, beq_toListBytes, sb_beq]
  | pointer e =>
    cases hk
    cases hx <;> first | (cases hd; done) | skip
    all_goals (cases hy <;> first | (cases hd; done) | skip)
    all_goals (cases hd; rfl)
  | slice e =>
    cases hk
    cases hx <;> first | (cases hd; done) | skip
    all_goals (cases hy <;> first | (cases hd; done) | skip)
    all_goals (cases hd; rfl)
  | func a b c =>
    cases hk
    cases hx <;> first | (cases hd; done) | skip
    all_goals (cases hy <;> first | (cases hd; done) | skip)
    all_goals (cases hd; rfl)
  | map a b =>
    cases hk
    cases hx <;> first | (cases hd; done) | skip
    all_goals (cases hy <;> first | (cases hd; done) | skip)
    all_goals (cases hd; rfl)
  | int k =>
    cases hk
    cases hx <;> first | (cases hd; done) | skip
    cases hy <;> first | (cases hd; done) | skip
    rename_i k1 a k2 b'
    have h1 : Bool.rec (motive := fun _ => OB) .bad (.ok (eqI a b')) (Bool.and (Nat.beq (kc k) (kc k1)) (Nat.beq (kc k) (kc k2))) = .ok b := hd
    cases h2 : Bool.and (Nat.beq (kc k) (kc k1)) (Nat.beq (kc k) (kc k2)) with
    | false => rw [h2] at h1; cases h1
    | true =>
      rw [h2] at h1
      have h3 : (Nat.beq (kc k) (kc k1) && Nat.beq (kc k) (kc k2)) = true := h2
      rw [Bool.and_eq_true] at h3
      have e1 := kc_inj h3.1
      have e2 := kc_inj h3.2
      subst e1
      subst e2
      cases h1
      rw [eqI_eq]
      simp only [if_true, Sem.run_pure]
      rfl
  | _ => cases hk

theorem eqL_ok {M : Nat → Prop} {β : Nat → Bk} {U : Us} {xs ys : Array Value} {cx cy : List D} (hx : ∀ i, i < cx.length → Rep w M β U (xs.getD i undef) (cx.getD i .junk)) (hy : ∀ i, i < cy.length → Rep w M β U (ys.getD i undef) (cy.getD i .junk))
    (lx : xs.size = cx.length) (ly : ys.size = cy.length) (d : Nat) :
    ∀ (fs : List Field) (n : Nat) (l : List EK) (b : Bool), ekL P fs = some l → rowed fs n = true → eqL l (cx.drop n) (cy.drop n) = .ok b →
      (Op.eqFields (d + 1) xs ys fs).run P w = .ok b w := by
  intro fs
  induction fs with
  | nil =>
    intro n l b hl _ he
    cases hl
    cases he
    rfl
  | cons f fs ih =>
    intro n l b hl hr he
    unfold ekL at hl
    split at hl
    · cases hl
    · rename_i hne
      cases hu : P.underlying f.type with
      | none => rw [hu] at hl; cases hl
      | some dd =>
        rw [hu] at hl
        simp only at hl
        cases hk : ekS dd with
        | none => rw [hk] at hl; cases hl
        | some ek =>
          rw [hk] at hl
          cases hl2 : ekL P fs with
          | none => rw [hl2] at hl; cases hl
          | some l2 =>
            rw [hl2] at hl
            simp only [Option.some.injEq] at hl
            subst hl
            have hr2 : (f.offset == n && rowed fs (n + 1)) = true := hr
            rw [Bool.and_eq_true] at hr2
            have hoff : f.offset = n := by simpa using hr2.1
            have hnag : aggD dd = false := by cases dd <;> first | rfl | cases hk
            cases hcx : cx.drop n with
            | nil => rw [hcx] at he; cases he
            | cons a cx' =>
              cases hcy : cy.drop n with
              | nil => rw [hcx, hcy] at he; cases he
              | cons b' cy' =>
                rw [hcx, hcy] at he
                have he2 : andOB (eq1 ek a b') (eqL l2 cx' cy') = .ok b := he
                have hnx : n < cx.length := by
                  rcases Nat.lt_or_ge n cx.length with h | h
                  · exact h
                  · rw [List.drop_eq_nil_of_le h] at hcx; cases hcx
                have hny : n < cy.length := by
                  rcases Nat.lt_or_ge n cy.length with h | h
                  · exact h
                  · rw [List.drop_eq_nil_of_le h] at hcy; cases hcy
                have ea : cx.getD n .junk = a ∧ cx.drop (n + 1) = cx' := by
                  rw [List.drop_eq_getElem_cons hnx] at hcx
                  cases hcx
                  exact ⟨by simp [List.getD_eq_getElem?_getD, hnx], rfl⟩
                have eb : cy.getD n .junk = b' ∧ cy.drop (n + 1) = cy' := by
                  rw [List.drop_eq_getElem_cons hny] at hcy
                  cases hcy
                  exact ⟨by simp [List.getD_eq_getElem?_getD, hny], rfl⟩
                cases h1 : eq1 ek a b' with
                | bad => rw [h1] at he2; cases he2
                | ok t1 =>
                  rw [h1] at he2
                  cases h2 : eqL l2 cx' cy' with
                  | bad => rw [h2] at he2; cases he2
                  | ok t2 =>
                    rw [h2] at he2
                    cases he2
                    have hp : ∀ (vs : Array Value), n < vs.size → (part f.type vs f.offset).run P w = .ok (vs.getD n undef) w := by
                      intro vs hn
                      unfold part
                      rw [Sem.run_bind, run_isAgg hu, hnag]
                      simp only [Result.andThen_ok, Bool.false_eq_true, if_false, hoff]
                      simp [Array.getD, hn]
                    have he1 := eq1_ok (P := P) (w := w) hu hk (ea.1 ▸ hx n hnx) (eb.1 ▸ hy n hny) h1 d
                    have hih := ih (n + 1) l2 t2 hl2 hr2.2 (by rw [ea.2, eb.2]; exact h2)
                    simp only [Op.eqFields, if_pos hne, Sem.run_bind, hp xs (lx ▸ hnx), hp ys (ly ▸ hny), Result.andThen_ok, he1]
                    cases t1 with
                    | true => simpa using hih
                    | false => simp

end
end Go.Proofs.Ytdijijblccmfbaa
