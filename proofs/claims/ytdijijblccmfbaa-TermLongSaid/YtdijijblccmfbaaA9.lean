/- Each operation, run. Seventh part: structs, composite literals, make. No condition. -/
import Derived.Test.YtdijijblccmfbaaA8
set_option linter.unusedSimpArgs false
set_option linter.unusedVariables false
namespace Go.Proofs.Ytdijijblccmfbaa
open Go

theorem foldl_set (cs : List Value) : ∀ (off s : Nat) (arr : Array Value), off + s + cs.length ≤ arr.size →
    ((cs.zipIdx s).foldl (fun (a : Array Value) (p : Value × Nat) => a.setIfInBounds (off + p.2) p.1) arr).size = arr.size ∧
    ∀ x, ((cs.zipIdx s).foldl (fun (a : Array Value) (p : Value × Nat) => a.setIfInBounds (off + p.2) p.1) arr).getD x undef = if off + s ≤ x ∧ x < off + s + cs.length then cs.getD (x - (off + s)) undef else arr.getD x undef := by
  induction cs with
  | nil =>
    intro off s arr _
    refine ⟨rfl, fun x => ?_⟩
    rw [if_neg (by simp only [List.length_nil]; omega)]
    rfl
  | cons c cs ih =>
    intro off s arr hl
    simp only [List.length_cons] at hl
    have h1 := ih off (s + 1) (arr.setIfInBounds (off + s) c) (by simp; omega)
    refine ⟨?_, fun x => ?_⟩
    · rw [List.zipIdx_cons, List.foldl_cons]
      rw [h1.1]; simp
    · rw [List.zipIdx_cons, List.foldl_cons, h1.2 x]
      by_cases h2 : x = off + s
      · subst h2
        rw [if_neg (by omega), if_pos (by simp only [List.length_cons]; omega), Nat.sub_self]
        have : off + s < arr.size := by omega
        simp [Array.getD, this]
      · by_cases h3 : off + s ≤ x ∧ x < off + s + (cs.length + 1)
        · rw [if_pos (by omega), if_pos (by simp only [List.length_cons]; omega), show x - (off + s) = (x - (off + (s + 1))) + 1 from by omega]
          rfl
        · rw [if_neg (by omega), if_neg (by simp only [List.length_cons]; omega)]
          simp only [Array.getD_eq_getD_getElem?]
          rw [Array.getElem?_setIfInBounds_ne (by omega)]

theorem fill_step {place : Nat → Option (Nat × Nat)} {cells : Array Value} {i off size : Nat} {v : Value} {rest : List (Nat × Value)} (hp : place i = some (off, size)) (hs : v.cells.size = size) (ho : off + size ≤ cells.size) :
    ∃ c : Array Value, Instr.fill place cells ((i, v) :: rest) = Instr.fill place c rest ∧ c.size = cells.size ∧
      ∀ x, c.getD x undef = if off ≤ x ∧ x < off + size then v.cells.getD (x - off) undef else cells.getD x undef := by
  refine ⟨v.cells.zipIdx.foldl (fun cs (p : Value × Nat) => cs.setIfInBounds (off + p.2) p.1) cells, ?_, ?_⟩
  · have h1 : ¬ ((v.cells.size ≠ size || decide (off + v.cells.size > cells.size)) = true) := by
      simp [hs]
      omega
    conv => lhs; unfold Instr.fill
    rw [hp]
    simp only
    rw [if_neg h1]
  · have h2 : v.cells.zipIdx.foldl (fun cs (p : Value × Nat) => cs.setIfInBounds (off + p.2) p.1) cells = (v.cells.toList.zipIdx 0).foldl (fun cs (p : Value × Nat) => cs.setIfInBounds (off + p.2) p.1) cells := by
      rw [← Array.foldl_toList]
      simp
    have h3 := foldl_set v.cells.toList off 0 cells (by rw [Array.length_toList]; omega)
    rw [h2]
    refine ⟨h3.1, fun x => ?_⟩
    rw [h3.2 x, Array.length_toList, hs, getD_toList]
    rfl

section
variable {P : Program} {RC : Nat → Code → DCode → Prop} {Fb : Nat → Prop} {β : Nat → Bk} {U : Us} {N : Nat} {h : Hps} {w : World}

/-- cells that read as data, one by one -/
def CellsOk (w : World) (M : Nat → Prop) (β : Nat → Bk) (U : Us) (c : Array Value) (l : List D) : Prop :=
  c.size = l.length ∧ ∀ x, x < l.length → (c.getD x undef).oneCell' = true ∧ Rep w M β U (c.getD x undef) (l.getD x .junk)

theorem CellsOk.splice {M : Nat → Prop} {c c' vs : Array Value} {l xs : List D} {off size : Nat} (H : CellsOk w M β U c l) (V : CellsOk w M β U vs xs) (hs : xs.length = size) (ho : off + size ≤ l.length) (hc' : c'.size = c.size)
    (hg : ∀ x, c'.getD x undef = if off ≤ x ∧ x < off + size then vs.getD (x - off) undef else c.getD x undef) : CellsOk w M β U c' (overwrite xs off l) := by
  rw [overwrite_eq xs off l (by omega)]
  refine ⟨?_, fun x hx => ?_⟩
  · simp only [List.length_append, List.length_take, List.length_drop]
    rw [hc', H.1]
    omega
  · have hx' : x < l.length := by
      simp only [List.length_append, List.length_take, List.length_drop] at hx
      omega
    rw [hg x, getD_splice l xs .junk off x (by omega), hs]
    by_cases h1 : off ≤ x ∧ x < off + size
    · rw [if_pos h1, if_pos h1]; exact V.2 _ (by omega)
    · rw [if_neg h1, if_neg h1]; exact H.2 _ hx'

theorem cellsX_ok {M : Nat → Prop} {v : Value} {d : D} {xs : List D} (hv : Rep w M β U v d) (hx : cellsX d = some xs) : CellsOk w M β U v.cells xs := by
  have hs : solid d = true ∧ cells d = xs := by cases d <;> first | (cases hx; done) | (cases hx; exact ⟨rfl, rfl⟩)
  obtain ⟨h1, h2⟩ := hv.cells hs.1
  rw [hs.2] at h1 h2
  exact ⟨h1, h2⟩

theorem fillP_none (e : Tr) (ps : List (Nat × Nat × Opd)) : fillP e ps none = none := by
  induction ps with
  | nil => rfl
  | cons p ps ih =>
    show fillP e ps (fld2 p.2.1 p.1 none (cellsX (ev e p.2.2))) = none
    have : fld2 p.2.1 p.1 none (cellsX (ev e p.2.2)) = none := by cases cellsX (ev e p.2.2) <;> rfl
    rw [this]; exact ih

theorem fill_ok {M : Nat → Prop} {a : Act} {env : Tr} {mm : Nat} (E : EnvOk w M β U a.tmps env) (hm : mm ≤ a.tmps.size) {plc place : Nat → Option (Nat × Nat)}
    (hpl : ∀ (i : Nat) (q : Nat × Nat), plc i = some q → place i = some q) :
    ∀ (parts : List (Nat × Operand)) (ps : List (Nat × Nat × Opd)) (c : Array Value) (l l' : List D), cParts mm plc parts = some ps → CellsOk w M β U c l → fillP env ps (some l) = some l' →
      ∃ c', Instr.fill place c (parts.map fun p => (p.1, a.eval p.2)) = some c' ∧ CellsOk w M β U c' l' := by
  intro parts
  induction parts with
  | nil =>
    intro ps c l l' hp H hf
    cases hp
    cases hf
    exact ⟨c, rfl, H⟩
  | cons p parts ih =>
    intro ps c l l' hp H hf
    obtain ⟨i, x⟩ := p
    unfold cParts at hp
    cases h1 : plc i with
    | none => rw [h1] at hp; cases hp
    | some q =>
        rw [h1] at hp
        cases h3 : cParts mm plc parts with
        | none => rw [h3] at hp; cases hp
        | some ps2 =>
          rw [h3] at hp
          simp only [Option.some.injEq] at hp
          subst hp
          have hf' : fillP env ps2 (fld2 q.2 q.1 (some l) (cellsX (ev env (cO mm x)))) = some l' := hf
          cases h4 : cellsX (ev env (cO mm x)) with
          | none => rw [h4] at hf'; rw [show fld2 q.2 q.1 (some l) none = none from rfl, fillP_none] at hf'; cases hf'
          | some xs =>
            rw [h4] at hf'
            have hf2 : fillP env ps2 (Bool.rec (motive := fun _ => Option (List D)) none (some (overwrite xs q.1 l)) (Bool.and (Nat.beq q.2 (lenL xs)) (Nat.ble (q.1 + q.2) (lenL l)))) = some l' := hf'
            cases h5 : Bool.and (Nat.beq q.2 (lenL xs)) (Nat.ble (q.1 + q.2) (lenL l)) with
            | false => rw [h5] at hf2; rw [fillP_none] at hf2; cases hf2
            | true =>
              rw [h5] at hf2
              obtain ⟨h6, h7⟩ := and2 h5
              have h6 := beq_eq h6
              have h7 := ble_le h7
              rw [lenL_eq] at h6 h7
              have V := cellsX_ok (ev_ok E hm x) h4
              obtain ⟨c2, h8, h9, h10⟩ := fill_step (place := place) (cells := c) (i := i) (v := a.eval x) (rest := parts.map fun p => (p.1, a.eval p.2)) (hpl i q h1) (V.1.trans h6.symm) (by rw [H.1]; exact h7)
              obtain ⟨c3, h11, h12⟩ := ih ps2 c2 _ l' h3 (H.splice V h6.symm h7 h9 h10) hf2
              exact ⟨c3, by rw [List.map_cons, h8]; exact h11, h12⟩

/-! ### a slice written out -/
theorem fill_rows {size : Nat} : ∀ (vs : List Value) (s : Nat) (c : Array Value), (∀ v, v ∈ vs → v.cells.size = size) → (s + vs.length) * size ≤ c.size →
    ∃ c' : Array Value, Instr.fill (fun i => some (i * size, size)) c ((vs.zipIdx s).map fun p => (p.2, p.1)) = some c' ∧ c'.size = c.size ∧
      (∀ x, x < s * size → c'.getD x undef = c.getD x undef) ∧ ∀ i, i < vs.length → ∀ j, j < size → c'.getD ((s + i) * size + j) undef = (vs.getD i undef).cells.getD j undef := by
  intro vs
  induction vs with
  | nil =>
    intro s c _ _
    exact ⟨c, rfl, rfl, fun _ _ => rfl, fun i hi => absurd hi (Nat.not_lt_zero _)⟩
  | cons v vs ih =>
    intro s c hv hl
    simp only [List.length_cons] at hl
    have hl1 : s * size + size ≤ c.size := by
      have : (s + 1) * size ≤ (s + (vs.length + 1)) * size := Nat.mul_le_mul_right _ (by omega)
      rw [Nat.add_mul, Nat.one_mul] at this
      omega
    obtain ⟨c2, h1, h2, h3⟩ := fill_step (place := fun i => some (i * size, size)) (cells := c) (i := s) (v := v) (rest := (vs.zipIdx (s + 1)).map fun p => (p.2, p.1)) rfl (hv v (by simp)) hl1
    obtain ⟨c3, h4, h5, h6, h7⟩ := ih (s + 1) c2 (fun u hu => hv u (by simp [hu])) (by rw [h2, show s + 1 + vs.length = s + (vs.length + 1) from by omega]; exact hl)
    refine ⟨c3, ?_, h5.trans h2, fun x hx => ?_, fun i hi j hj => ?_⟩
    · rw [List.zipIdx_cons, List.map_cons, h1, h4]
    · rw [h6 x (by rw [Nat.add_mul]; omega), h3 x, if_neg (by omega)]
    · cases i with
      | zero =>
        rw [Nat.add_zero, h6 _ (by rw [Nat.add_mul, Nat.one_mul]; omega), h3, if_pos (by omega)]
        congr 1
        omega
      | succ i =>
        rw [show s + (i + 1) = s + 1 + i from by omega]
        exact h7 i (by simpa using hi) j hj

/-- no reference in it: it reads as it does whatever is tracked -/
theorem Rep.clo {M : Nat → Prop} : ∀ (f : Nat) {v : Value} {d : D}, Rep w M β U v d → clo f d = true → Rep w M β No v d := by
  intro f
  induction f with
  | zero => intro v d _ h; cases h
  | succ f ih =>
    intro v d hr hc
    have hc' : clo0 (Go.Proofs.Ytdijijblccmfbaa.clo f) d = true := hc
    have hl : ∀ {l : List D}, allL (Go.Proofs.Ytdijijblccmfbaa.clo f) l = true → ∀ i, i < l.length → Go.Proofs.Ytdijijblccmfbaa.clo f (l.getD i .junk) = true := by
      intro l hl i hi
      rw [allL_eq, List.all_eq_true] at hl
      rw [List.getD_eq_getElem?_getD, List.getElem?_eq_getElem hi]
      exact hl _ (List.getElem_mem hi)
    cases hr with
    | junk => exact .junk
    | int => exact .int
    | bool => exact .bool
    | str s => exact .str s
    | nilp => exact .nilp
    | nilf => exact .nilf
    | nili => exact .nili
    | nilm => exact .nilm
    | nils => exact .nils
    | ip b o e j vs hM hcl ho hr => exact .ip b o e j vs hM hcl ho hr
    | sl a b o c k es sp full vs ha hM hk hcap hf hcl ho hr => exact .sl a b o c k es sp full vs ha hM hk hcap hf hcl ho hr
    | fn g a c first capt ha hcc hra hrc =>
      obtain ⟨h1, h2⟩ := and2 (show Bool.and (allL (Go.Proofs.Ytdijijblccmfbaa.clo f) first) (allL (Go.Proofs.Ytdijijblccmfbaa.clo f) capt) = true from hc')
      exact .fn g a c first capt ha hcc (fun i hi => ih (hra i hi) (hl h1 i hi)) (fun i hi => ih (hrc i hi) (hl h2 i hi))
    | iface h => exact .iface (ih h hc')
    | agg vs cs hle ho hr => exact .agg vs cs hle ho (fun i hi => ih (hr i hi) (hl (show allL (Go.Proofs.Ytdijijblccmfbaa.clo f) cs = true from hc') i hi))
    | tup vs cs hle hr => exact .tup vs cs hle (fun i hi => ih (hr i hi) (hl (show allL (Go.Proofs.Ytdijijblccmfbaa.clo f) cs = true from hc') i hi))
    | _ => cases hc'

theorem okF_inv {k : Nat} {d : D} (e : okF k d = true) : solid d = true ∧ (cells d).length = k := by
  cases d <;> first | (cases e; done) | (exact ⟨rfl, by have h1 := beq_eq e; rw [lenL_eq] at h1; exact h1.symm⟩)

/-- a block beside those that are tracked -/
theorem Adv.beside {w' : World} {o : Obj} (g : Grew w w' o) : Adv β U h w β (Ad U N) h w' :=
  ⟨g.os, g.tape, g.output, by rw [g.size]; omega, Sub.ad _ _, fun _ _ => rfl, fun _ hb _ => g.old hb, fun _ _ ht => ht⟩
theorem Inv.beside (I : Inv RC β U Fb h w) {w' : World} {o : Obj} (g : Grew w w' o) : Inv RC β (Ad U N) Fb h w' :=
  I.step RC (Adv.beside g) (fun r hr => .inl ⟨rfl, g.old (I.lt r hr)⟩) I.inj (fun b hb => (I.frm b hb).2)

/-- a new row of elements of k cells -/
theorem row_ok (I : Inv RC β U Fb h w) (hN : ¬ U N) {w' : World} {c : Array Value} {T : TypeId} (g : Grew w w' (.cells c T (0, 0))) {k C : Nat} {l : List D} (hC : c.size = C) (hl : l.length * k ≤ C) (hk : ∀ e, e ∈ l → (cells e).length = k)
    (hc : ∀ i, i < l.length → ∀ j, j < k → (c.getD (i * k + j) undef).oneCell' = true ∧ Rep w (Mk β Fb h) β U (c.getD (i * k + j) undef) ((cells (l.getD i .junk)).getD j .junk))
    (n cap : Nat) (full : Bool) (hn : n = l.length) (hcap : n ≤ cap) (hf : full = true → cap = n) (hg : full = false → cap * k = C) (hle : cap * k ≤ C) (hx : cap ≤ maxLen) :
    Rep w' (Mk (upd β N ⟨w.heap.size, k, C⟩) Fb ((N, .row k l) :: h)) (upd β N ⟨w.heap.size, k, C⟩) (Ad U N) (.slice (some ⟨w.heap.size, 0, none⟩) n cap) (.ms k N 0 n full) ∧
      Inv RC (upd β N ⟨w.heap.size, k, C⟩) (Ad U N) Fb ((N, .row k l) :: h) w' ∧ Adv β U h w (upd β N ⟨w.heap.size, k, C⟩) (Ad U N) ((N, .row k l) :: h) w' := by
  have hA := Adv.new I hN g (.row k l) k C
  refine ⟨?_, Inv.new I hN g (.row k l) k C ⟨rfl, hl, hk, c, T, g.new, hC, fun i hi j hj => ⟨(hc i hi j hj).1, (hc i hi j hj).2.adv hA (Sub.refl _) _ (Sub.ad _ _)⟩⟩, hA⟩
  have := Rep.ms (w := w') (M := Mk (upd β N ⟨w.heap.size, k, C⟩) Fb ((N, .row k l) :: h)) (β := upd β N ⟨w.heap.size, k, C⟩) (N := Ad U N) (r := N) ⟨w.heap.size, 0, none⟩ 0 n cap full (.inr rfl)
    (.inl (by rw [upd_same, Nat.zero_mul])) hcap hf (fun e => by rw [upd_same, Nat.zero_add]; exact hg e) (by rw [upd_same, Nat.zero_add]; exact hle) hx
  rw [upd_same] at this
  exact this

end
end Go.Proofs.Ytdijijblccmfbaa
