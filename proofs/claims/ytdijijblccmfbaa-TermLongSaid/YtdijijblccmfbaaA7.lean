/- Each operation, run. Fifth part: slices that are read. No condition. -/
import Derived.Test.YtdijijblccmfbaaA6
set_option linter.unusedSimpArgs false
set_option linter.unusedVariables false
namespace Go.Proofs.Ytdijijblccmfbaa
open Go

section
variable {P : Program} {RC : Nat → Code → DCode → Prop} {Fb : Nat → Prop} {β : Nat → Bk} {U : Us} {N : Nat} {h : Hps} {w : World}

/-- a slice whose elements are l, of k cells each -/
def SlV (w : World) (M : Nat → Prop) (β : Nat → Bk) (U : Us) (v : Value) (k : Nat) (l : List D) : Prop :=
  (v = .slice none 0 0 ∧ l = []) ∨ ∃ (a : Addr) (c : Nat), v = .slice (some a) l.length c ∧ l.length ≤ c ∧ (∀ e, e ∈ l → (cells e).length = k) ∧ (0 < l.length → a.spot = none) ∧
    ∃ vs : Nat → Nat → Value, ∀ i, i < l.length → ∀ j, j < k → w.cell? (a.add (i * k + j)) = some (vs i j) ∧ (vs i j).oneCell' = true ∧ Rep w M β U (vs i j) ((cells (l.getD i .junk)).getD j .junk)

theorem getD_append_l {l m : List D} {i : Nat} (hi : i < l.length) : (l ++ m).getD i .junk = l.getD i .junk := by
  rw [List.getD_eq_getElem?_getD, List.getElem?_append_left hi, ← List.getD_eq_getElem?_getD]
theorem getD_append_r {l m : List D} {i : Nat} : (l ++ m).getD (l.length + i) .junk = m.getD i .junk := by
  rw [List.getD_eq_getElem?_getD, List.getElem?_append_right (by omega), ← List.getD_eq_getElem?_getD]
  congr 1; omega
theorem getD_dt {l : List D} {o n i : Nat} (hi : i < n) : ((l.drop o).take n).getD i .junk = l.getD (o + i) .junk := by
  rw [List.getD_eq_getElem?_getD, List.getElem?_take, if_pos hi, List.getElem?_drop, ← List.getD_eq_getElem?_getD]

theorem viewR_inv {off len k : Nat} {l : List D} {o : Ob} (e : viewR off len o = .ok k l) : ∃ es, o = .row k es ∧ off + len ≤ es.length ∧ l = (es.drop off).take len := by
  cases o with
  | row k' es =>
    have e' : Bool.rec (motive := fun _ => VL) .bad (.ok k' (takeL len (dropL off es))) (Nat.ble (off + len) (lenL es)) = .ok k l := e
    rw [lenL_eq, ble_iff, takeL_eq, dropL_eq] at e'
    by_cases hb : off + len ≤ es.length
    · rw [decide_eq_true hb] at e'
      cases e'
      exact ⟨es, rfl, hb, rfl⟩
    · rw [decide_eq_false hb] at e'; cases e'
  | _ => cases e

theorem view_ok (I : Inv RC β U Fb h w) {v : Value} {x : D} {k0 k : Nat} {l : List D} (hv : Rep w (Mk β Fb h) β U v x) (e : view k0 h x = .ok k l) : SlV w (Mk β Fb h) β U v k l := by
  cases hv with
  | nils => cases e; exact .inl ⟨rfl, rfl⟩
  | sl a b o c k es sp full vs ha hM hk hcap hf hc ho hr =>
    cases e
    refine .inr ⟨a, c, rfl, by omega, fun e he => hk e (List.mem_append_left _ he), fun hp => ?_, vs, fun i hi j hj => ?_⟩
    · rcases ha with rfl | h0
      · rfl
      · omega
    have ha : a = ⟨b, o, none⟩ := ha.resolve_right (by omega)
    subst ha
    have hi' : i < (l ++ sp).length := by rw [List.length_append]; omega
    refine ⟨?_, ho i hi' j hj, ?_⟩
    · rw [Addr.add_lit]; exact hc i hi' j hj
    · have := (hr i hi' j hj).adv (Adv.refl β U h w) (Sub.no _) U (Sub.no _)
      rw [getD_append_l hi] at this
      exact this
  | @ms _ r a off len c full hr ha hl hf hg hC hx =>
    have e' : viewR off len (getO h r) = .ok k l := e
    obtain ⟨es, hgo, hle, rfl⟩ := viewR_inv e'
    have ho := I.obj r
    rw [hgo] at ho
    obtain ⟨h1, h2, h3, cs, T, h4, h5, h6⟩ := ho
    have hll : ((es.drop off).take len).length = len := by simp; omega
    refine .inr ⟨a, c, by rw [hll], by omega, fun e he => h3 e (List.mem_of_mem_drop (List.mem_of_mem_take he)), fun hp => ?_, fun i j => cs.getD ((off + i) * k + j) undef, fun i hi j hj => ?_⟩
    · rcases ha with rfl | ⟨h7, _⟩
      · rfl
      · omega
    · rw [hll] at hi
      rcases ha with rfl | ⟨h7, _⟩
      · obtain ⟨h8, h9, h10⟩ := row_elem I hgo (i := off + i) (by omega)
        obtain ⟨c2, T2, h11, h12, h13, h14⟩ := h10
        rw [h4] at h11
        cases h11
        have h15 := h14 j hj
        rw [getD_dt hi]
        refine ⟨?_, h15.2.1, h15.2.2⟩
        rw [Addr.add_lit, h1, show off * k + (i * k + j) = (off + i) * k + j from by rw [Nat.add_mul]; omega]
        exact h15.1
      · omega
  | _ => cases e

/-! ### the address of an element -/
theorem natR_inv {f : Nat → Rd} {x d : D} {n : Nat} {h' : Hps} (e : natR f x = .ok d n h') : ∃ k m, x = .int k (.ofNat m) ∧ f m = .ok d n h' := by
  cases x with
  | int k i =>
    cases i with
    | ofNat m => exact ⟨k, m, rfl, e⟩
    | negSucc m => cases e
  | _ => cases e
theorem Rep.int_inv {M : Nat → Prop} {v : Value} {k : IntKind} {n : Int} (hv : Rep w M β U v (.int k n)) : v = .int k n := by cases hv; rfl
theorem Rep.bool_inv {M : Nat → Prop} {v : Value} {b : Bool} (hv : Rep w M β U v (.bool b)) : v = .bool b := by cases hv; rfl

theorem iaddr_ok {t e : TypeId} {ti : TypeInfo} (hu : P.underlying t = some (.slice e)) (hi : P.info? e = some ti) {vx vi : Value} {x y d : D} {n' : Nat} {h' : Hps}
    (hx : Rep w (Mk β Fb h) β U vx x) (hy : Rep w (Mk β Fb h) β U vi y) (hd : natR (iaddrD N h ti.size x) y = .ok d n' h') :
    ∃ v, (Instr.indexAt t vx vi).run P w = .ok v w ∧ Rep w (Mk β Fb h) β U v d ∧ h' = h := by
  obtain ⟨ki, m, rfl, hd⟩ := natR_inv hd
  have hvi := hy.int_inv
  subst hvi
  have hrun : ∀ (a : Addr) (len c : Nat), m < len → (Instr.indexAt t (.slice (some a) len c) (.int ki (.ofNat m))).run P w = .ok (.pointer (some (a.add (m * ti.size)))) w := by
    intro a len c hm
    have h0 : (0 : Int) ≤ Int.ofNat m ∧ Int.ofNat m < len := by simp only [Int.ofNat_eq_natCast]; omega
    have h1 : (0 : Int) ≤ (m : Int) ∧ (m : Int) < len := h0
    simp [Instr.indexAt, run_underlying hu, asIntOf, h1, run_sizeOf hi, hm]
  cases hx with
  | sl a b o c k es sp full vs ha hM hk hcap hf hc ho hr =>
    have hd' : ifR (Bool.and (Nat.blt m (lenL es)) (Nat.beq ti.size k)) (.ok (.ip (nth es m) 0) N h) = .ok d n' h' := hd
    obtain ⟨h1, h2⟩ := ifR_inv hd'
    have h1' : (Nat.blt m (lenL es) && Nat.beq ti.size k) = true := h1
    rw [Bool.and_eq_true, lenL_eq, blt_iff, beq_iff] at h1'
    have hm := of_decide_eq_true h1'.1
    have hke := of_decide_eq_true h1'.2
    cases h2
    subst hke
    have ha : a = ⟨b, o, none⟩ := ha.resolve_right (by omega)
    subst ha
    refine ⟨_, hrun _ _ _ hm, ?_, rfl⟩
    rw [Addr.add_lit, nth_eq]
    have hm' : m < (es ++ sp).length := by rw [List.length_append]; omega
    have hel : (es ++ sp).getD m .junk = es.getD m .junk := getD_append_l hm
    have hmem : es.getD m .junk ∈ es ++ sp := by
      rw [List.getD_eq_getElem?_getD, List.getElem?_eq_getElem hm]
      exact List.mem_append_left _ (List.getElem_mem hm)
    have hlen := hk _ hmem
    refine Rep.ip b (o + m * ti.size) (es.getD m .junk) 0 (vs m) (fun h0 => hM (Nat.mul_pos (by omega) (by omega))) (fun x hx => ?_) (fun x hx => ho m hm' x (by omega)) (fun x hx => ?_)
    · rw [Nat.add_assoc]; exact hc m hm' x (by omega)
    · rw [← hel]; exact hr m hm' x (by omega)
  | @ms _ r a off len c full hr ha hl hf hg hC hx =>
    have hd' : ifR (Bool.and (Nat.blt m len) (Nat.beq ti.size (β r).k)) (.ok (.ptr r (off + m) 0) N h) = .ok d n' h' := hd
    obtain ⟨h1, h2⟩ := ifR_inv hd'
    have h1' : (Nat.blt m len && Nat.beq ti.size (β r).k) = true := h1
    rw [Bool.and_eq_true, blt_iff, beq_iff] at h1'
    have hm := of_decide_eq_true h1'.1
    have hke := of_decide_eq_true h1'.2
    cases h2
    refine ⟨_, hrun _ _ _ hm, ?_, rfl⟩
    rcases ha with rfl | ⟨h3, _⟩
    · rw [Addr.add_lit, hke, ← Nat.add_mul]
      exact Rep.ptr (off + m) 0 hr
    · omega
  | _ => cases hd

theorem paddr_ok {M : Nat → Prop} {t e : TypeId} {m0 : Nat} {ti : TypeInfo} (hu : P.underlying t = some (.array m0 e)) (hi : P.info? e = some ti) {vx vi : Value} {x y d : D} {n' : Nat} {h' : Hps}
    (hx : Rep w M β U vx x) (hy : Rep w M β U vi y) (hd : natR (paddrD N h ti.size m0 x) y = .ok d n' h') :
    ∃ v, (Instr.indexAt t vx vi).run P w = .ok v w ∧ Rep w M β U v d ∧ h' = h := by
  obtain ⟨ki, m, rfl, hd⟩ := natR_inv hd
  have hvi := hy.int_inv
  subst hvi
  have hrun : ∀ (a : Addr), m < m0 → (Instr.indexAt t (.pointer (some a)) (.int ki (.ofNat m))).run P w = .ok (.pointer (some (a.add (m * ti.size)))) w := by
    intro a hm
    have h0 : (0 : Int) ≤ Int.ofNat m ∧ Int.ofNat m < m0 := by simp only [Int.ofNat_eq_natCast]; omega
    have h1 : (0 : Int) ≤ (m : Int) ∧ (m : Int) < m0 := h0
    simp [Instr.indexAt, Instr.sureAddr, run_underlying hu, asIntOf, h1, run_sizeOf hi, hm]
  have hadd : ∀ (b o k : Nat), (Addr.add ⟨b, o, none⟩ k) = ⟨b, o + k, none⟩ := by
    intro b o k
    unfold Addr.add
    split
    · rename_i h0; rw [h0]; rfl
    · rfl
  cases hx with
  | ptr i j hr =>
    obtain ⟨h1, h2⟩ := ifR_inv (show ifR (Nat.blt m m0) (.ok (.ptr _ i (j + m * ti.size)) N h) = .ok d n' h' from hd)
    rw [blt_iff] at h1
    cases h2
    refine ⟨_, hrun _ (of_decide_eq_true h1), ?_, rfl⟩
    rw [hadd, Nat.add_assoc]
    exact .ptr i _ hr
  | ip b o e j vs hM hc ho hr =>
    obtain ⟨h1, h2⟩ := ifR_inv (show ifR (Nat.blt m m0) (.ok (.ip e (j + m * ti.size)) N h) = .ok d n' h' from hd)
    rw [blt_iff] at h1
    cases h2
    refine ⟨_, hrun _ (of_decide_eq_true h1), ?_, rfl⟩
    rw [hadd, Nat.add_assoc]
    exact .ip b o e _ vs hM hc ho hr
  | _ => cases hd

theorem nthN_lt {l : List Nat} {i b : Nat} (e : nthN l i = some b) : i < l.length ∧ l.getD i 0 = b := by
  rw [nthN_eq] at e
  obtain ⟨h1, h2⟩ := List.getElem?_eq_some_iff.1 e
  exact ⟨h1, by rw [List.getD_eq_getElem?_getD, e]; rfl⟩
theorem sidx_ok {t : TypeId} (hu : P.underlying t = some .string) {vx vi : Value} {x y d : D} {n' : Nat} {h' : Hps}
    (hx : Rep w (Mk β Fb h) β U vx x) (hy : Rep w (Mk β Fb h) β U vi y) (hd : natR (sidxD N h x) y = .ok d n' h') :
    ∃ v, (Instr.index t vx vi).run P w = .ok v w ∧ Rep w (Mk β Fb h) β U v d ∧ h' = h := by
  obtain ⟨ki, m, rfl, hd⟩ := natR_inv hd
  have hvi := hy.int_inv
  subst hvi
  cases hx with
  | str s =>
    have hd' : (match nthN (sb s) m with | some b => Rd.ok (.int .u8 (.ofNat b)) N h | none => .bad) = .ok d n' h' := hd
    cases e : nthN (sb s) m with
    | none => rw [e] at hd'; cases hd'
    | some b =>
      rw [e] at hd'
      cases hd'
      obtain ⟨h1, h2⟩ := nthN_lt e
      rw [sb_len] at h1
      have h3 : s[m]? = some s[m] := getElem?_pos s m h1
      have h4 : (s[m]).toNat = b := by
        rw [← h2]
        unfold sb
        have h5 : m < s.data.toList.length := by rw [Array.length_toList]; exact h1
        rw [List.getD_eq_getElem?_getD, List.getElem?_map, List.getElem?_eq_getElem h5]
        rfl
      refine ⟨.int .u8 (s[m]).toNat, ?_, by rw [h4]; exact .int, rfl⟩
      have h0 : (0 : Int) ≤ Int.ofNat m := by simp only [Int.ofNat_eq_natCast]; omega
      have h6 : (Int.ofNat m).toNat = m := rfl
      simp only [Instr.index, Sem.run_bind, asIntOf, Sem.run_pure, Result.andThen_ok, run_underlying hu, if_pos h0, h6, h3]
  | _ => cases hd

/-! ### slice expressions -/
theorem optN_inv {env : Tr} {x : Option Opd} {dflt : Nat} {f : Nat → Rd} {d : D} {n : Nat} {h' : Hps} (e : optN env x dflt f = .ok d n h') :
    ∃ m, f m = .ok d n h' ∧ ((x = none ∧ m = dflt) ∨ ∃ y k, x = some y ∧ ev env y = .int k (.ofNat m)) := by
  cases x with
  | none => exact ⟨dflt, e, .inl ⟨rfl, rfl⟩⟩
  | some y =>
    obtain ⟨k, m, h1, h2⟩ := natR_inv e
    exact ⟨m, h2, .inr ⟨y, k, rfl, h1⟩⟩

/-- a bound as the model has it -/
def Bd (v : Option Value) (dflt m : Nat) : Prop := (v = none ∧ m = dflt) ∨ ∃ k, v = some (.int k (m : Int))
theorem bd_of {M : Nat → Prop} {a : Act} {env : Tr} {mm : Nat} (E : EnvOk w M β U a.tmps env) (hm : mm ≤ a.tmps.size) {x : Option Operand} {dflt m : Nat} (hb : ((x.map (cO mm)) = none ∧ m = dflt) ∨ ∃ y k, (x.map (cO mm)) = some y ∧ ev env y = .int k (.ofNat m)) :
    Bd (x.map a.eval) dflt m := by
  cases x with
  | none =>
    rcases hb with ⟨_, h⟩ | ⟨y, k, h, _⟩
    · exact .inl ⟨rfl, h⟩
    · cases h
  | some o =>
    rcases hb with ⟨h, _⟩ | ⟨y, k, h, h2⟩
    · cases h
    · simp only [Option.map_some, Option.some.injEq] at h
      subst h
      have := ev_ok E hm o
      rw [h2] at this
      exact .inr ⟨k, congrArg some this.int_inv⟩
theorem run_bound {v : Value} {k : IntKind} {m y : Nat} {code : BoundsCode} (hv : v = .int k (m : Int)) (hm : m ≤ y) : (Instr.sliceBound v y code).run P w = .ok m w := by
  subst hv
  have h0 : (0 : Int) ≤ (m : Int) ∧ (m : Int) ≤ y := by omega
  unfold Instr.sliceBound
  simp only [Sem.run_bind, asIntOf, Sem.run_pure, Result.andThen_ok]
  rw [if_pos h0]
  rfl
theorem run_bounds2 {isS : Bool} {len cap l u : Nat} {lo hi : Option Value} (hl : Bd lo 0 l) (hu : Bd hi len u) (h1 : l ≤ u) (h2 : u ≤ cap) : (Instr.sliceBounds isS len cap lo hi none).run P w = .ok (l, u, cap) w := by
  unfold Instr.sliceBounds
  rcases hl with ⟨rfl, rfl⟩ | ⟨kl, rfl⟩ <;> rcases hu with ⟨rfl, rfl⟩ | ⟨ku, rfl⟩
  · simp
  · simp [run_bound (k := ku) rfl h2]
  · simp [run_bound (k := kl) rfl h1]
  · simp [run_bound (k := ku) rfl h2, run_bound (k := kl) rfl h1]
theorem run_bounds3 {isS : Bool} {len cap l u m : Nat} {lo : Option Value} {hi mx : Value} {ku km : IntKind} (hl : Bd lo 0 l) (hu : hi = .int ku (u : Int)) (hm : mx = .int km (m : Int)) (h1 : l ≤ u) (h2 : u ≤ m) (h3 : m ≤ cap) :
    (Instr.sliceBounds isS len cap lo (some hi) (some mx)).run P w = .ok (l, u, m) w := by
  unfold Instr.sliceBounds
  rcases hl with ⟨rfl, rfl⟩ | ⟨kl, rfl⟩
  · simp [run_bound hm h3, run_bound hu h2]
  · simp [run_bound hm h3, run_bound hu h2, run_bound (k := kl) rfl h1]

/-- what remains of a slice -/
theorem sl_cut {v : Value} {a0 : Addr} {c k l u m : Nat} {es sp : List D} {full : Bool} (hv : Rep w (Mk β Fb h) β U v (.sl k es sp full)) (hve : v = .slice (some a0) es.length c) (h1 : l ≤ u) (h2 : u ≤ m) (h3 : m ≤ es.length + sp.length) (full' : Bool) (c' : Nat)
    (hc' : m - l ≤ c') (hf' : full' = true → c' = u - l) (hz : c = 0 → c' = 0) (a : Addr) (ha : a = a0.add (l * k) ∨ (m = l ∧ a = a0)) :
    Rep w (Mk β Fb h) β U (.slice (some a) (u - l) c') (.sl k (((es ++ sp).drop l).take (u - l)) (((es ++ sp).take m).drop u) full') := by
  cases hv with
  | sl a2 b2 o2 c2 _ _ _ _ vs ha2 hM hk hcap hf hc ho hr =>
    simp only [Value.slice.injEq, Option.some.injEq] at hve
    obtain ⟨e1, _, e3⟩ := hve
    subst e1
    subst e3
    have hlen : (((es ++ sp).drop l).take (u - l)).length = u - l := by simp; omega
    have hlen2 : (((es ++ sp).take m).drop u).length = m - u := by simp; omega
    obtain ⟨b', o', hab, hbo⟩ : ∃ b' o', (a = ⟨b', o', none⟩ ∨ c' = 0) ∧ (l < m → b' = b2 ∧ o' = o2 + l * k) := by
      rcases ha2 with rfl | h5
      · rcases ha with rfl | ⟨h4, rfl⟩
        · rw [Addr.add_lit]; exact ⟨_, _, .inl rfl, fun _ => ⟨rfl, rfl⟩⟩
        · exact ⟨_, _, .inl rfl, fun h => by omega⟩
      · exact ⟨b2, o2, .inr (hz h5), fun h => by omega⟩
    have hget : ∀ i, i < m - l → ((((es ++ sp).drop l).take (u - l)) ++ (((es ++ sp).take m).drop u)).getD i .junk = (es ++ sp).getD (l + i) .junk := by
      intro i hi
      by_cases hiu : i < u - l
      · rw [getD_append_l (by rw [hlen]; exact hiu), getD_dt hiu]
      · rw [List.getD_eq_getElem?_getD, List.getElem?_append_right (by rw [hlen]; omega), hlen, List.getElem?_drop, List.getElem?_take, if_pos (by omega), ← List.getD_eq_getElem?_getD]
        congr 1
        omega
    have key : Rep w (Mk β Fb h) β U (.slice (some a) (((es ++ sp).drop l).take (u - l)).length c') (.sl k (((es ++ sp).drop l).take (u - l)) (((es ++ sp).take m).drop u) full') → Rep w (Mk β Fb h) β U (.slice (some a) (u - l) c') (.sl k (((es ++ sp).drop l).take (u - l)) (((es ++ sp).take m).drop u) full') := by
      intro hx
      rw [hlen] at hx
      exact hx
    refine key ?_
    clear key
    refine Rep.sl a b' o' c' k _ _ full' (fun i j => vs (l + i) j) hab (fun h0 => ?_) (fun e he => ?_) (by rw [hlen, hlen2]; omega) (fun h => by rw [hlen]; exact hf' h) (fun i hi j hj => ?_) (fun i hi j hj => ?_) (fun i hi j hj => ?_)
    · rw [List.length_append, hlen, hlen2] at h0
      have h5 : l < m := by
        rcases Nat.lt_or_ge l m with h | h
        · exact h
        · rw [show u - l + (m - u) = 0 from by omega, Nat.zero_mul] at h0; omega
      rw [(hbo h5).1]
      refine hM (Nat.mul_pos ?_ ?_)
      · rw [List.length_append]; omega
      · rcases Nat.eq_zero_or_pos k with h | h
        · rw [h, Nat.mul_zero] at h0; omega
        · exact h
    · rcases List.mem_append.1 he with he | he
      · exact hk e (List.mem_of_mem_drop (List.mem_of_mem_take he))
      · exact hk e (List.mem_of_mem_take (List.mem_of_mem_drop he))
    · rw [List.length_append, hlen, hlen2] at hi
      rw [(hbo (by omega)).1, (hbo (by omega)).2, show o2 + l * k + (i * k + j) = o2 + ((l + i) * k + j) from by rw [Nat.add_mul]; omega]
      exact hc (l + i) (by rw [List.length_append]; omega) j hj
    · rw [List.length_append, hlen, hlen2] at hi
      exact ho (l + i) (by rw [List.length_append]; omega) j hj
    · rw [List.length_append, hlen, hlen2] at hi
      rw [hget i (by omega)]
      exact hr (l + i) (by rw [List.length_append]; omega) j hj

theorem run_slice_of {t e : TypeId} {ti : TypeInfo} (hu : P.underlying t = some (.slice e)) (hi : P.info? e = some ti) {a : Option Addr} {len cap l u m : Nat} {lo hi' mx : Option Value} (hb : (Instr.sliceBounds true len cap lo hi' mx).run P w = .ok (l, u, m) w) :
    (Instr.sliceAt t (.slice a len cap) lo hi' mx).run P w = .ok (.slice (if m = l then a else a.map (·.add (l * ti.size))) (u - l) (m - l)) w := by
  simp [Instr.sliceAt, Instr.slice, run_underlying hu, hb, run_sizeOf hi]

end
end Go.Proofs.Ytdijijblccmfbaa
