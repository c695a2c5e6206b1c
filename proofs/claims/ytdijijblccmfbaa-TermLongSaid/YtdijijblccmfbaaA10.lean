/- Each operation, run. Eighth part: structs, slices written out, make, append. No condition. -/
import Derived.Test.YtdijijblccmfbaaA9
set_option linter.unusedSimpArgs false
set_option linter.unusedVariables false
namespace Go.Proofs.Ytdijijblccmfbaa
open Go

section
variable {P : Program} {RC : Nat → Code → DCode → Prop} {Fb : Nat → Prop} {β : Nat → Bk} {U : Us} {N : Nat} {h : Hps} {w : World}

theorem getD_getElem! {α : Type} [Inhabited α] (z : Array α) (i : Nat) (u : α) (hi : i < z.size) : z[i]! = z.getD i u := by simp [Array.getD, hi]
theorem madeCells_getD {z : Array Value} {m k i j : Nat} (hz : z.size = k) (hi : i < m) (hj : j < k) : (madeCells z (m * k)).getD (i * k + j) undef = z.getD j undef := by
  have hlt : i * k + j < m * k := by
    have : (i + 1) * k ≤ m * k := Nat.mul_le_mul_right _ hi
    rw [Nat.add_mul, Nat.one_mul] at this
    omega
  have hmod : (i * k + j) % k = j := by rw [Nat.mul_comm, Nat.mul_add_mod, Nat.mod_eq_of_lt hj]
  have e1 : (madeCells z (m * k)).getD (i * k + j) undef = z[(i * k + j) % z.size]! := by
    simp [madeCells, Array.getD, hlt]
  rw [e1, hz, hmod]
  exact getD_getElem! z j undef (by omega)

theorem mksl_ok (I : Inv RC β U Fb h w) (hN : ¬ U N) {t e : TypeId} {ti : TypeInfo} {z : Value} (hu : P.underlying t = some (.slice e)) (hi : P.info? e = some ti) (hz : ti.zero = some z) (hzk : okF ti.size (ofV z) = true) (hb : 0 < ti.bytes)
    {vx : Value} {x d : D} {n' : Nat} {h' : Hps} (hx : Rep w (Mk β Fb h) β U vx x) (hd : natR (mkslD N h ti.size ti.bytes (ofV z)) x = .ok d n' h') :
    ∃ v w' β', (Instr.makeSlice t vx vx).run P w = .ok v w' ∧ Rep w' (Mk β' Fb h') β' (Ad U N) v d ∧ Inv RC β' (Ad U N) Fb h' w' ∧ Adv β U h w β' (Ad U N) h' w' := by
  obtain ⟨kx, m, rfl, hd⟩ := natR_inv hd
  have := hx.int_inv
  subst this
  obtain ⟨h1, h2⟩ := ifR_inv (show ifR (Nat.ble (m * ti.bytes) most) (.ok (.ms ti.size N 0 m false) N ((N, .row ti.size (repL (ofV z) m)) :: h)) = _ from hd)
  have h1 := ble_le h1
  unfold most at h1
  cases h2
  have hm : m ≤ 140737488355328 := Nat.le_trans (Nat.le_mul_of_pos_right m hb) h1
  obtain ⟨hs, hk⟩ := okF_inv hzk
  obtain ⟨h3, h4⟩ := (ofV_rep w (Mk β Fb h) β U z).cells hs
  rw [hk] at h3 h4
  have hrun := run_make (P := P) w t e ti z hu hi hz kx kx (m : Int) (m : Int) (by omega) (Int.le_refl _) (by rw [← Int.natCast_mul, Nat.mul_comm]; omega) (by omega)
  have g : Grew w (w.alloc (.cells (madeCells z.cells (m * ti.size)) e)) (.cells (madeCells z.cells (m * ti.size)) e (0, 0)) := Grew.alloc _ _
  rw [repL_eq]
  have hR := row_ok I hN g (k := ti.size) (C := m * ti.size) (l := List.replicate m (ofV z)) (size_madeCells _ _) (by simp) (fun e he => by rw [List.eq_of_mem_replicate he]; exact hk)
    (fun i hi j hj => by
      have hi' : i < m := by simpa using hi
      rw [madeCells_getD h3 hi' hj]
      have : (List.replicate m (ofV z)).getD i .junk = ofV z := by simp [List.getD_eq_getElem?_getD, hi']
      rw [this]
      exact h4 j hj)
    m m false (by simp) (Nat.le_refl _) (fun e => by cases e) (fun _ => rfl) (Nat.le_refl _) (by unfold maxLen; omega)
  exact ⟨_, _, _, hrun, hR.1, hR.2.1, hR.2.2⟩

theorem range_zip {α : Type} : ∀ (l : List (Nat × α)) (n s : Nat), l.map (·.1) = List.range' s n → l = ((l.map (·.2)).zipIdx s).map fun p => (p.2, p.1) := by
  intro l
  induction l with
  | nil => intro n s _; rfl
  | cons p l ih =>
    intro n s hl
    cases n with
    | zero => cases hl
    | succ n =>
      rw [List.range'_succ, List.map_cons] at hl
      simp only [List.cons.injEq] at hl
      have := ih n (s + 1) hl.2
      rw [List.map_cons, List.zipIdx_cons, List.map_cons, ← this]
      obtain ⟨a, b⟩ := p
      simp only at hl
      rw [hl.1]

theorem bsl_ok (I : Inv RC β U Fb h w) (hN : ¬ U N) {t e : TypeId} {ti : TypeInfo} (hu : P.underlying t = some (.slice e)) (hi : P.info? e = some ti) (hz : ti.zero.isSome = true) {a : Act} {env : Tr} {mm : Nat} (E : EnvOk w (Mk β Fb h) β U a.tmps env) (hm : mm ≤ a.tmps.size)
    {len : Nat} {parts : List (Nat × Operand)} (hp : parts.map (·.1) = List.range len) (hmax : len * ti.size ≤ 16777216) (hmx : len ≤ maxLen) {d : D} {n' : Nat} {h' : Hps} (hd : bslD N h ti.size (evs env (parts.map fun p => cO mm p.2)) = .ok d n' h') :
    ∃ v w' β', (Instr.buildSlice t len (parts.map fun p => (p.1, a.eval p.2)).toArray).run P w = .ok v w' ∧ Rep w' (Mk β' Fb h') β' (Ad U N) v d ∧ Inv RC β' (Ad U N) Fb h' w' ∧ Adv β U h w β' (Ad U N) h' w' := by
  obtain ⟨z, hz⟩ := Option.isSome_iff_exists.1 hz
  have hpl : parts.length = len := by
    have := congrArg List.length hp
    simpa using this
  rw [evs_eq, List.map_map] at hd
  obtain ⟨l, hl⟩ : ∃ l, l = parts.map (ev env ∘ fun p => cO mm p.2) := ⟨_, rfl⟩
  rw [← hl] at hd
  have hll : l.length = len := by rw [hl, List.length_map, hpl]
  have hd' : Bool.rec (motive := fun _ => Rd) (ifR (allL (okF ti.size) l) (.ok (.ms ti.size N 0 (lenL l) true) N ((N, .row ti.size l) :: h))) (.ok (.sl ti.size l [] true) N h) (allL (okE ti.size) l) = .ok d n' h' := hd
  have hok : ∀ e, e ∈ l → okF ti.size e = true := by
    cases hb : allL (okE ti.size) l with
    | true =>
      rw [allL_eq, List.all_eq_true] at hb
      intro e he
      exact (and2 (show Bool.and (okF ti.size e) (clo 20 e) = true from hb e he)).1
    | false =>
      rw [hb] at hd'
      have h1 := (ifR_inv hd').1
      rw [allL_eq, List.all_eq_true] at h1
      exact h1
  have hvs : ∀ i, i < len → Rep w (Mk β Fb h) β U ((parts.map fun p => a.eval p.2).getD i undef) (l.getD i .junk) := by
    intro i hi
    have hi' : i < parts.length := by omega
    have e1 : (parts.map fun p => a.eval p.2).getD i undef = a.eval (parts[i]).2 := by simp [List.getD_eq_getElem?_getD, hi']
    have e2 : l.getD i .junk = ev env (cO mm (parts[i]).2) := by rw [hl]; simp [List.getD_eq_getElem?_getD, hi']
    rw [e1, e2]
    exact ev_ok E hm _
  have hel : ∀ i, i < len → okF ti.size (l.getD i .junk) = true := by
    intro i hi
    apply hok
    rw [List.getD_eq_getElem?_getD, List.getElem?_eq_getElem (by omega)]
    exact List.getElem_mem _
  have hcs : ∀ i, i < len → ((parts.map fun p => a.eval p.2).getD i undef).cells.size = ti.size ∧ ∀ j, j < ti.size → (((parts.map fun p => a.eval p.2).getD i undef).cells.getD j undef).oneCell' = true ∧
      Rep w (Mk β Fb h) β U (((parts.map fun p => a.eval p.2).getD i undef).cells.getD j undef) ((cells (l.getD i .junk)).getD j .junk) := by
    intro i hi
    obtain ⟨h1, h2⟩ := okF_inv (hel i hi)
    obtain ⟨h3, h4⟩ := (hvs i hi).cells h1
    exact ⟨h3.trans h2, fun j hj => h4 j (by omega)⟩
  obtain ⟨zc, hzc⟩ : ∃ zc : Array Value, zc = if len * ti.size = 0 then #[] else z.cells := ⟨_, rfl⟩
  obtain ⟨c, h5, h6, _, h7⟩ := fill_rows (size := ti.size) (parts.map fun p => a.eval p.2) 0 ((Array.range (len * ti.size)).map (zc[· % zc.size]!)) (fun v hv => by
      obtain ⟨i, hi, rfl⟩ := List.mem_iff_getElem.1 hv
      have hi' : i < len := by rw [List.length_map] at hi; omega
      have := (hcs i hi').1
      rwa [List.getD_eq_getElem?_getD, List.getElem?_eq_getElem hi] at this) (by simp [hpl])
  have hpe : (parts.map fun p => (p.1, a.eval p.2)) = ((parts.map fun p => a.eval p.2).zipIdx 0).map fun p => (p.2, p.1) := by
    have := range_zip (parts.map fun p => (p.1, a.eval p.2)) len 0 (by rw [List.map_map, ← List.range_eq_range', ← hp]; rfl)
    rw [List.map_map] at this
    exact this
  have hrun : (Instr.buildSlice t len (parts.map fun p => (p.1, a.eval p.2)).toArray).run P w = .ok (.slice (some ⟨w.heap.size, 0, none⟩) len len) (w.alloc (.cells c e)) := by
    unfold Instr.buildSlice
    simp only [Sem.run_bind, run_underlying hu, Result.andThen_ok, run_sizeOf hi]
    rw [if_neg (by omega : ¬ len * ti.size > 2 ^ 24)]
    by_cases h0 : len * ti.size = 0
    · rw [if_pos h0] at hzc ⊢
      subst hzc
      simp only [Sem.run_bind, Sem.run_pure, Result.andThen_ok]
      rw [hpe, h5]
      rfl
    · rw [if_neg h0] at hzc ⊢
      subst hzc
      simp only [Sem.run_bind, Sem.run_pure, Result.andThen_ok, zeroValue, typeInfo, run_program, hi, hz]
      rw [hpe, h5]
      rfl
  have g : Grew w (w.alloc (.cells c e)) (.cells c e (0, 0)) := Grew.alloc _ _
  have hcsz : c.size = len * ti.size := by rw [h6]; simp
  have hcell : ∀ i, i < len → ∀ j, j < ti.size → (c.getD (i * ti.size + j) undef).oneCell' = true ∧ Rep w (Mk β Fb h) β U (c.getD (i * ti.size + j) undef) ((cells (l.getD i .junk)).getD j .junk) := by
    intro i hi j hj
    have := h7 i (by rw [List.length_map]; omega) j hj
    rw [Nat.zero_add] at this
    rw [this]
    exact (hcs i hi).2 j hj
  cases hb : allL (okE ti.size) l with
  | true =>
    rw [hb] at hd'
    cases hd'
    have hA : Adv β U h w β (Ad U N) h (w.alloc (.cells c e)) := Adv.beside g
    refine ⟨_, w.alloc (.cells c e), β, hrun, ?_, Inv.beside I g, hA⟩
    rw [← hll]
    have hni : ¬ Mk β Fb h w.heap.size := by
      rintro (hf | ⟨r, hr, hr2⟩)
      · exact Nat.lt_irrefl _ (I.frm _ hf).1
      · have := I.lt r hr; omega
    have hlt : ∀ i, i < (l ++ []).length → ∀ j, j < ti.size → i * ti.size + j < c.size := by
      intro i hi j hj
      rw [List.append_nil] at hi
      have : (i + 1) * ti.size ≤ len * ti.size := Nat.mul_le_mul_right _ (by omega)
      rw [Nat.add_mul, Nat.one_mul] at this
      omega
    refine Rep.sl ⟨w.heap.size, 0, none⟩ w.heap.size 0 l.length ti.size l [] true (fun i j => c.getD (i * ti.size + j) undef) (.inl rfl) (fun _ => ⟨by rw [World.size_alloc]; omega, hni⟩) (fun e he => ?_) (by simp) (fun _ => rfl) (fun i hi j hj => ?_) (fun i hi j hj => ?_) (fun i hi j hj => ?_)
    · rw [List.append_nil] at he; exact (okF_inv (hok e he)).2
    · rw [Nat.zero_add]
      unfold World.cell?
      simp only [g.new]
      simp [Array.getD, hlt i hi j hj]
    · rw [List.append_nil] at hi; exact (hcell i (by omega) j hj).1
    · have hi0 := hi
      rw [List.append_nil] at hi ⊢
      have hcl : clo 20 (l.getD i .junk) = true := by
        rw [allL_eq, List.all_eq_true] at hb
        have : l.getD i .junk ∈ l := by rw [List.getD_eq_getElem?_getD, List.getElem?_eq_getElem hi]; exact List.getElem_mem _
        exact (and2 (show Bool.and (okF ti.size (l.getD i .junk)) (clo 20 (l.getD i .junk)) = true from hb _ this)).2
      have hv0 := Rep.clo 20 (hvs i (by omega)) hcl
      obtain ⟨h8, h9⟩ := okF_inv (hel i (by omega))
      have h10 := (hv0.cells h8).2 j (by omega)
      have h11 := h7 i (by rw [List.length_map]; omega) j hj
      rw [Nat.zero_add] at h11
      rw [h11]
      exact h10.2.adv hA (Sub.no _) No (Sub.no _)
  | false =>
    rw [hb] at hd'
    have h1 := (ifR_inv hd').2
    cases h1
    rw [lenL_eq]
    have hR := row_ok I hN g (k := ti.size) (C := len * ti.size) (l := l) hcsz (by rw [hll]; exact Nat.le_refl _) (fun e he => (okF_inv (hok e he)).2) (fun i hi j hj => hcell i (by omega) j hj)
      len len true hll.symm (Nat.le_refl _) (fun _ => rfl) (fun e => by cases e) (Nat.le_refl _) hmx
    rw [hll]
    exact ⟨_, _, _, hrun, hR.1, hR.2.1, hR.2.2⟩

theorem build_ok {t : TypeId} {ti : TypeInfo} {fs : Array Field} {z : Value} {zs : List D} (hu : P.underlying t = some (.struct fs)) (hi : P.info? t = some ti) (hz : ti.zero = some z) (hzs : ofV z = .agg zs) (hfs : ∀ f, f ∈ fs.toList → (P.info? f.type).isSome = true)
    {M : Nat → Prop} {a : Act} {env : Tr} {mm : Nat} (E : EnvOk w M β U a.tmps env) (hm : mm ≤ a.tmps.size) {parts : List (Nat × Operand)} {ps : List (Nat × Nat × Opd)} (hp : cParts mm (plcS P fs) parts = some ps) {l : List D} (hl : fillP env ps (some zs) = some l) :
    ∃ v, (Instr.build t (parts.map fun p => (p.1, a.eval p.2)).toArray).run P w = .ok v w ∧ Rep w M β U v (.agg l) := by
  have hpl : ∃ places : Array (Nat × Nat), (fs.mapM (m := Sem) fun f => do pure (f.offset, ← sizeOf f.type)).run P w = .ok places w ∧ ∀ (i : Nat) (q : Nat × Nat), plcS P fs i = some q → places[i]? = some q := by
    have hlist : ∀ (l : List Field), (∀ f, f ∈ l → (P.info? f.type).isSome = true) → (l.mapM (m := Sem) fun f => do pure (f.offset, ← sizeOf f.type)).run P w = .ok (l.map fun f => (f.offset, ((P.info? f.type).getD default).size)) w := by
      intro l
      induction l with
      | nil => intro _; rfl
      | cons f l ih =>
        intro hf
        obtain ⟨j, hj⟩ := Option.isSome_iff_exists.1 (hf f (by simp))
        rw [List.mapM_cons]
        simp only [Sem.run_bind, run_sizeOf hj, Result.andThen_ok, Sem.run_pure, ih (fun g hg => hf g (by simp [hg])), List.map_cons, hj, Option.getD_some]
    refine ⟨(fs.toList.map fun f => (f.offset, ((P.info? f.type).getD default).size)).toArray, ?_, fun i q h1 => ?_⟩
    · rw [Array.mapM_eq_mapM_toList, Sem.run_map, hlist fs.toList hfs]
      rfl
    · unfold plcS at h1
      split at h1
      · rename_i f hf
        split at h1
        · rename_i j hj
          cases h1
          rw [List.getElem?_toArray, List.getElem?_map, Array.getElem?_toList, hf]
          simp [hj]
        · cases h1
      · cases h1
  obtain ⟨places, h1, h2⟩ := hpl
  have hzc : CellsOk w M β U z.cells zs := by
    have hr := ofV_rep w M β U z
    rw [hzs] at hr
    exact (hr.cells rfl)
  obtain ⟨c, h3, h4⟩ := fill_ok E hm (place := (places[·]?)) h2 parts ps z.cells zs l hp hzc hl
  refine ⟨.agg c, ?_, .agg c l h4.1 (fun i hi => (h4.2 i hi).1) (fun i hi => (h4.2 i hi).2)⟩
  unfold Instr.build
  simp only [Sem.run_bind, zeroValue, typeInfo, run_program, Result.andThen_ok, hi, hz, Sem.run_pure, run_underlying hu, h1]
  rw [h3]
  rfl

theorem build_arr_ok {t e : TypeId} {n : Nat} {ti tj : TypeInfo} {z : Value} {zs : List D} (hu : P.underlying t = some (.array n e)) (hi : P.info? t = some ti) (hj : P.info? e = some tj) (hz : ti.zero = some z) (hzs : ofV z = .agg zs)
    {M : Nat → Prop} {a : Act} {env : Tr} {mm : Nat} (E : EnvOk w M β U a.tmps env) (hm : mm ≤ a.tmps.size) {parts : List (Nat × Operand)} {ps : List (Nat × Nat × Opd)} (hp : cParts mm (fun x => some (x * tj.size, tj.size)) parts = some ps) {l : List D} (hl : fillP env ps (some zs) = some l) :
    ∃ v, (Instr.build t (parts.map fun p => (p.1, a.eval p.2)).toArray).run P w = .ok v w ∧ Rep w M β U v (.agg l) := by
  have hzc : CellsOk w M β U z.cells zs := by
    have hr := ofV_rep w M β U z
    rw [hzs] at hr
    exact (hr.cells rfl)
  obtain ⟨c, h3, h4⟩ := fill_ok E hm (place := fun x => some (x * tj.size, tj.size)) (fun _ _ h => h) parts ps z.cells zs l hp hzc hl
  refine ⟨.agg c, ?_, .agg c l h4.1 (fun i hi => (h4.2 i hi).1) (fun i hi => (h4.2 i hi).2)⟩
  unfold Instr.build
  simp only [Sem.run_bind, zeroValue, typeInfo, run_program, Result.andThen_ok, hi, hz, Sem.run_pure, run_underlying hu, run_sizeOf hj]
  rw [h3]
  rfl

end
end Go.Proofs.Ytdijijblccmfbaa
