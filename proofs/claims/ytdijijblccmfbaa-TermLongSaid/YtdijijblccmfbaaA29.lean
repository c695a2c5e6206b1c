/- From a statement's words to data: what an argument reads as, is data; what a run over data tells, the statement says. No condition. -/
import Derived.Test.YtdijijblccmfbaaA28
import Derived.ProofKit
import Derived.Carry
import Derived.ReadAgain
set_option linter.unusedSimpArgs false
set_option linter.unusedVariables false
namespace Go.Proofs.Ytdijijblccmfbaa
open Go Go.RowKit Go.WideShapes Go.ChangeShapes

section
variable {H : Type} (P : Program)

/-- what a reading is as data -/
def dVal : Nat → TypeId → DataW H → D
  | 0, _, _ => .junk
  | f + 1, t, x => match P.underlying t, x with
    | some .bool, .lit (.bool b) => .bool b
    | some (.int _), .lit (.int k n) => .int k n
    | some .string, .lit (.string l) => .str (l.map UInt8.toNat)
    | some (.pointer _), .nil => .nilp
    | some (.pointer e), .ptr y => if 0 < P.cellsOf e then .ip (dVal f e y) 0 else .junk
    | some (.slice _), .nil => .nils
    | some (.slice e), .slice es sp => .sl (P.cellsOf e) (es.map (dVal f e)) (sp.map (dVal f e)) sp.isEmpty
    | some (.struct fs), .agg ps => .agg ((fs.toList.zip ps).flatMap fun p => cells (dVal f p.1.type p.2))
    | some (.array _ e), .agg ps => .agg (ps.flatMap fun p => cells (dVal f e p))
    | some (.map _ _), .nil => .nilm
    | _, _ => .junk

/-- what a reading may be at its type -/
def Fit : Nat → TypeId → DataW H → Prop
  | 0, _, _ => False
  | f + 1, t, x => match P.underlying t with
    | some .bool => ∃ b, x = .lit (.bool b)
    | some (.int k) => ∃ n, x = .lit (.int k n) ∧ k.min ≤ n ∧ n ≤ k.max
    | some .string => ∃ l, x = .lit (.string l) ∧ l.length ≤ maxLen
    | some (.pointer e) => x = .nil ∨ ∃ y, x = .ptr y ∧ Fit f e y
    | some (.slice e) => x = .nil ∨ ∃ es sp, x = .slice es sp ∧ es.length + sp.length ≤ maxLen ∧ ∀ y, y ∈ es ++ sp → Fit f e y
    | some (.struct fs) => ∃ ps, x = .agg ps ∧ ps.length = fs.toList.length ∧ ∀ q, q ∈ fs.toList.zip ps → Fit f q.1.type q.2
    | _ => True

def ArgsAre : List TypeId → List (DataW H) → List D → Prop
  | [], [], [] => True
  | t :: ts, x :: xs, d :: ds => (∃ f, d = dVal P f t x ∧ Fit P f t x) ∧ ArgsAre ts xs ds
  | _, _, _ => False
end

section
variable {H : Type} {enc : TypeId × Value → H} {P : Program} {w : World} {β : Nat → Bk}

/-- what a row of cells is as data -/
structure CR (w : World) (β : Nat → Bk) (cs : List Value) (d : D) : Prop where
  len : (cells d).length = cs.length
  one : ∀ j, j < cs.length → (cs.getD j undef).oneCell' = true
  rep : ∀ j, j < cs.length → Rep w (Mk β (fun _ => False) []) β No (cs.getD j undef) ((cells d).getD j .junk)

theorem not_marked (β : Nat → Bk) (b : Nat) : ¬ Mk β (fun _ => False) [] b := by
  rintro (h | ⟨r, h, _⟩)
  · exact h
  · exact h rfl
theorem CR.single {v : Value} {d : D} (hd : cells d = [d]) (ho : v.oneCell' = true) (hr : Rep w (Mk β (fun _ => False) []) β No v d) : CR w β [v] d := by
  refine ⟨by rw [hd]; rfl, fun j hj => ?_, fun j hj => ?_⟩
  · have : j = 0 := by simp at hj; omega
    subst this; exact ho
  · have : j = 0 := by simp at hj; omega
    subst this; rw [hd]; exact hr
theorem CR.ofJunk {cs : List Value} (h : cs.length = 1) (ho : ∀ j, j < cs.length → (cs.getD j undef).oneCell' = true) : CR w β cs .junk := by
  refine ⟨h.symm, ho, fun j hj => ?_⟩
  have : j = 0 := by omega
  subst this
  exact .junk
theorem mapM_get {α γ : Type} {f : α → Option γ} : ∀ {l : List α} {r : List γ}, l.mapM f = some r → ∀ i, i < l.length → ∃ a y, l[i]? = some a ∧ r[i]? = some y ∧ f a = some y := by
  intro l
  induction l with
  | nil => intro r _ i hi; exact absurd hi (Nat.not_lt_zero _)
  | cons x xs ih =>
    intro r h i hi
    rw [List.mapM_cons] at h
    simp only [Option.pure_def, Option.bind_eq_bind, Option.bind_eq_some_iff] at h
    obtain ⟨y, hy, ys, hys, h2⟩ := h
    cases h2
    cases i with
    | zero => exact ⟨x, y, rfl, rfl, hy⟩
    | succ i => obtain ⟨a, z, h1, h2, h3⟩ := ih hys i (by simpa using hi); exact ⟨a, z, by simpa using h1, by simpa using h2, h3⟩
theorem cells_get {base n : Nat} {a : Addr} {cs : List Value} (h : w.cells? base a n = some cs) : cs.length = n ∧ ∀ i, i < n → w.cell? (a.add i) = some (cs.getD i undef) := by
  unfold World.cells? at h
  split at h
  · have hl := mapM_some_length h
    rw [List.length_range] at hl
    refine ⟨hl, fun i hi => ?_⟩
    obtain ⟨a', y, h1, h2, h3⟩ := mapM_get h i (by simpa using hi)
    rw [List.getElem?_range hi] at h1
    cases h1
    rw [List.getD_eq_getElem?_getD, h2]
    exact h3
  · cases h
theorem cell_lit {a : Addr} {v : Value} (h : w.cell? a = some v) : a = ⟨a.block, a.off, none⟩ ∧ a.block < w.heap.size := by
  unfold World.cell? at h
  split at h
  · rename_i c T fr he
    split at h
    · cases h
    · rename_i hs
      obtain ⟨b, o, s⟩ := a
      cases s with
      | none => exact ⟨rfl, lt_of_some he⟩
      | some s => exact absurd rfl hs
  · cases h
theorem flat_get {α γ : Type} (g : α → List γ) (z : γ) : ∀ (l : List α) (i : Nat) (a : α), l[i]? = some a → ∀ j, j < (g a).length → (l.flatMap g).getD (((l.take i).map fun a => (g a).length).sum + j) z = (g a).getD j z := by
  intro l
  induction l with
  | nil => intro i a h; simp at h
  | cons x xs ih =>
    intro i a h j hj
    cases i with
    | zero =>
      have : x = a := by simpa using h
      subst this
      simp only [List.take_zero, List.map_nil, List.sum_nil, Nat.zero_add, List.flatMap_cons]
      simp [List.getD_eq_getElem?_getD, List.getElem?_append_left hj]
    | succ i =>
      have h' : xs[i]? = some a := by simpa using h
      have := ih i a h' j hj
      simp only [List.take_succ_cons, List.map_cons, List.sum_cons, List.flatMap_cons]
      rw [List.getD_eq_getElem?_getD, List.getElem?_append_right (by omega), ← List.getD_eq_getElem?_getD, show (g x).length + ((List.take i xs).map fun a => (g a).length).sum + j - (g x).length = ((List.take i xs).map fun a => (g a).length).sum + j from by omega]
      exact this

theorem sb_eq (s : ByteArray) : sb s = s.data.toList.map UInt8.toNat := rfl
theorem getD_add_l {l m : List D} {i : Nat} (h : i < l.length) : (l ++ m).getD i .junk = l.getD i .junk := by simp [List.getD_eq_getElem?_getD, List.getElem?_append_left h]

/-- an element of a slice that reads -/
theorem elem_rep {r : TypeId → List Value → Option (DataW H × List MemPlace)} {q : TypeId → DataW H → D} {e : TypeId} (hr : ∀ cs x, r e cs = some x → CR w β cs (q e x.1)) {a : Addr} {i : Nat} {y : DataW H × List MemPlace}
    (h : (w.cells? 0 (a.add (i * P.cellsOf e)) (P.cellsOf e)).bind (r e) = some y) : (cells (q e y.1)).length = P.cellsOf e ∧ ∀ j, j < P.cellsOf e → ∃ v, w.cell? ((a.add (i * P.cellsOf e)).add j) = some v ∧ v.oneCell' = true ∧ Rep w (Mk β (fun _ => False) []) β No v ((cells (q e y.1)).getD j .junk) := by
  simp only [Option.bind_eq_some_iff] at h
  obtain ⟨cs, h1, h2⟩ := h
  obtain ⟨h3, h4⟩ := cells_get h1
  have h5 := hr cs y h2
  exact ⟨h5.len.trans h3, fun j hj => ⟨_, h4 j hj, h5.one j (by omega), h5.rep j (by omega)⟩⟩

theorem row_rep {gs : List D} {cs : List Value} {starts : Nat → Nat} (hlen : (gs.flatMap cells).length = cs.length)
    (hst : ∀ i g, gs[i]? = some g → starts i = ((gs.take i).map fun g => (cells g).length).sum)
    (hr : ∀ i g, gs[i]? = some g → CR w β ((cs.drop (starts i)).take (cells g).length) g) : CR w β cs (.agg (gs.flatMap cells)) := by
  have key : ∀ j, j < cs.length → ∃ i g j', gs[i]? = some g ∧ j' < (cells g).length ∧ j = starts i + j' := by
    intro j hj
    have hs : (gs.map fun g => (cells g).length).sum = cs.length := by rw [← hlen, List.length_flatMap]
    obtain ⟨i, h1, h2, h3⟩ := cover (gs.map fun g => (cells g).length) j (by rw [hs]; exact hj)
    have hi : i < gs.length := by simpa using h1
    refine ⟨i, gs[i], j - starts i, by simp [hi], ?_, ?_⟩
    · rw [hst i gs[i] (by simp [hi])]
      rw [List.map_take]
      rw [List.getD_eq_getElem?_getD, List.getElem?_map, List.getElem?_eq_getElem hi] at h3
      simp only [Option.map_some, Option.getD_some] at h3
      omega
    · rw [hst i gs[i] (by simp [hi])]
      rw [List.map_take]
      omega
  refine ⟨hlen, fun j hj => ?_, fun j hj => ?_⟩
  all_goals
    obtain ⟨i, g, j', h1, h2, rfl⟩ := key j hj
    have h3 := hr i g h1
    have h4 : ((cs.drop (starts i)).take (cells g).length).length = (cells g).length := h3.len.symm
    have h5 : ((cs.drop (starts i)).take (cells g).length).getD j' undef = cs.getD (starts i + j') undef := by
      rw [List.getD_eq_getElem?_getD, List.getElem?_take, if_pos h2, List.getElem?_drop, ← List.getD_eq_getElem?_getD]
  · rw [← h5]; exact h3.one j' (by rw [h4]; exact h2)
  · have h6 := h3.rep j' (by rw [h4]; exact h2)
    rw [h5] at h6
    show Rep w _ β No _ ((gs.flatMap cells).getD (starts i + j') .junk)
    rw [hst i g h1, flat_get cells .junk gs i g h1 j' h2, ← hst i g h1]
    exact h6

theorem trod_rep (K : Kids P (· < P.types.size)) (hz : ∀ t e, t < P.types.size → P.underlying t = some (.slice e) → 0 < P.cellsOf e) : ∀ (f : Nat) (t : TypeId) (cs : List Value) (x : DataW H × List MemPlace), t < P.types.size →
    DataW.trod enc P w 0 (fun _ => true) true f t cs = some x → CR w β cs (dVal P f t x.1) := by
  intro f
  induction f with
  | zero => intro t cs x _ h; simp [DataW.trod] at h
  | succ f ih =>
    intro t cs x hT h
    rw [DataW.trod_step] at h
    unfold DataW.trodStep at h
    have oneJ : ∀ {v : Value} {d : D}, v.oneCell' = true → d = .junk → CR w β [v] d := by
      intro v d hv hd
      subst hd
      exact CR.single rfl hv .junk
    split at h
    · rename_i hu; cases h; simp only [dVal, hu]; exact CR.single rfl rfl .bool
    · rename_i hu
      split at h
      · rename_i hk
        cases h; simp only [dVal, hu]
        obtain ⟨rfl, _⟩ := hk
        exact CR.single rfl rfl .int
      · cases h
    · rename_i hu
      split at h
      · cases h; exact oneJ rfl (by simp only [dVal, hu])
      · cases h
    · rename_i hu
      split at h
      · cases h; simp only [dVal, hu]; rw [← sb_eq]; exact CR.single rfl rfl (.str _)
      · cases h
    · rename_i hu; cases h; simp only [dVal, hu]; exact CR.single rfl rfl .nilp
    · rename_i e a hu
      simp only [Option.map_eq_some_iff, Option.bind_eq_some_iff] at h
      obtain ⟨y, ⟨cs', hc, hy⟩, rfl⟩ := h
      simp only [dVal, hu]
      split
      · rename_i hpos
        obtain ⟨h3, h4⟩ := cells_get hc
        have h5 := ih e cs' y (K.pointer hT hu) hy
        have h6 := h4 0 hpos
        rw [show a.add 0 = a from rfl] at h6
        obtain ⟨h7, h8⟩ := cell_lit h6
        refine CR.single rfl rfl ?_
        have h9 := Rep.ip (w := w) (M := Mk β (fun _ => False) []) (β := β) (N := No) a.block a.off (dVal P f e y.1) 0 (fun x => cs'.getD x undef) (fun _ => ⟨h8, not_marked β _⟩) (fun x hx => ?_) (fun x hx => h5.one x (h5.len ▸ hx)) (fun x hx => h5.rep x (h5.len ▸ hx))
        · rw [h7]; exact h9
        · have h10 := h4 x (by rw [← h3, ← h5.len]; exact hx)
          rw [h7] at h10
          rw [← h10, Addr.add_lit]
      · exact oneJ rfl rfl
    · rename_i hu; cases h; simp only [dVal, hu]; exact CR.single rfl rfl .nils
    · rename_i e a len cap hu
      simp only at h
      split at h
      · rename_i hcnd
        obtain ⟨_, hlc, _⟩ := hcnd
        simp only [if_true, Option.map_eq_some_iff, Option.bind_eq_some_iff] at h
        obtain ⟨elems, he, rest, hrest, rfl⟩ := h
        have hl1 : elems.length = len := by simpa using mapM_some_length he
        have hl2 : rest.length = cap - len := by simpa using mapM_some_length hrest
        have hk := hz t e hT hu
        have hel : ∀ i y, (elems ++ rest)[i]? = some y → (cells (dVal P f e y.1)).length = P.cellsOf e ∧ ∀ j, j < P.cellsOf e → ∃ v, w.cell? ((a.add (i * P.cellsOf e)).add j) = some v ∧ v.oneCell' = true ∧ Rep w (Mk β (fun _ => False) []) β No v ((cells (dVal P f e y.1)).getD j .junk) := by
          intro i y hi
          refine elem_rep (r := DataW.trod enc P w 0 (fun _ => true) true f) (q := dVal P f) (fun cs x hx => ih e cs x (K.slice hT hu) hx) ?_
          by_cases hil : i < len
          · obtain ⟨i', y', g1, g2, g3⟩ := mapM_get he i (by simpa using hil)
            rw [List.getElem?_range hil] at g1
            cases g1
            rw [List.getElem?_append_left (by omega), g2] at hi
            cases hi
            simpa using g3
          · have hi2 : i < len + rest.length := by
              have := (List.getElem?_eq_some_iff.1 hi).1
              rw [List.length_append] at this; omega
            obtain ⟨i', y', g1, g2, g3⟩ := mapM_get hrest (i - len) (by simp; omega)
            rw [List.getElem?_range (by omega)] at g1
            cases g1
            rw [List.getElem?_append_right (by omega), hl1, g2] at hi
            cases hi
            rw [show len + (i - len) = i by omega] at g3
            simpa using g3
        have hab : a = ⟨a.block, a.off, none⟩ ∧ a.block < w.heap.size ∨ cap = 0 := by
          rcases Nat.eq_zero_or_pos cap with h0 | h0
          · exact .inr h0
          · left
            have hlen : 0 < (elems ++ rest).length := by rw [List.length_append]; omega
            obtain ⟨v, g1, _⟩ := (hel 0 (elems ++ rest)[0] (by simp [hlen])).2 0 hk
            rw [Nat.zero_mul] at g1
            exact cell_lit g1
        simp only [dVal, hu]
        refine CR.single rfl rfl ?_
        have hval : ∀ i, i < ((elems.map (·.1)).map (dVal P f e) ++ (rest.map (·.1)).map (dVal P f e)).length → ∃ y, (elems ++ rest)[i]? = some y ∧ ((elems.map (·.1)).map (dVal P f e) ++ (rest.map (·.1)).map (dVal P f e)).getD i .junk = dVal P f e y.1 := by
          intro i hi
          have hi2 : i < (elems ++ rest).length := by simpa using hi
          refine ⟨(elems ++ rest)[i], by simp [hi2], ?_⟩
          rw [List.map_map, List.map_map, ← List.map_append, List.getD_eq_getElem?_getD, List.getElem?_map, List.getElem?_eq_getElem hi2]
          rfl
        have hcap : ((elems.map (·.1)).map (dVal P f e) ++ (rest.map (·.1)).map (dVal P f e)).length = cap := by simp; omega
        have hcell : ∀ i, i < ((elems.map (·.1)).map (dVal P f e) ++ (rest.map (·.1)).map (dVal P f e)).length → ∀ j, j < P.cellsOf e → ∃ v, w.cell? ⟨a.block, a.off + (i * P.cellsOf e + j), none⟩ = some v ∧ v.oneCell' = true ∧
            Rep w (Mk β (fun _ => False) []) β No v ((cells (((elems.map (·.1)).map (dVal P f e) ++ (rest.map (·.1)).map (dVal P f e)).getD i .junk)).getD j .junk) := by
          intro i hi j hj
          obtain ⟨y, g1, g2⟩ := hval i hi
          obtain ⟨v, g3, g4, g5⟩ := (hel i y g1).2 j hj
          have hab' := (hab.resolve_right (by omega)).1
          rw [hab', Addr.add_lit, Addr.add_lit] at g3
          rw [g2]
          exact ⟨v, by rw [← Nat.add_assoc]; exact g3, g4, g5⟩
        have := Rep.sl (w := w) (M := Mk β (fun _ => False) []) (β := β) (N := No) a a.block a.off cap (P.cellsOf e) ((elems.map (·.1)).map (dVal P f e)) ((rest.map (·.1)).map (dVal P f e)) (rest.map (·.1)).isEmpty
          (fun i j => (w.cell? ⟨a.block, a.off + (i * P.cellsOf e + j), none⟩).getD undef) (hab.imp (·.1) id) (fun h0 => ⟨(hab.resolve_right (by rintro rfl; rw [hcap, Nat.zero_mul] at h0; omega)).2, not_marked β _⟩)
          (fun g hg => ?_) (by simp; omega) (fun hf => ?_) (fun i hi j hj => ?_) (fun i hi j hj => ?_) (fun i hi j hj => ?_)
        · simpa [hl1] using this
        · obtain ⟨i, hi, rfl⟩ := List.mem_iff_getElem.1 hg
          obtain ⟨y, g1, g2⟩ := hval i hi
          rw [List.getD_eq_getElem?_getD, List.getElem?_eq_getElem hi, Option.getD_some] at g2
          rw [g2]
          exact (hel i y g1).1
        · have : rest = [] := by simpa using hf
          subst this
          simp at hl2 ⊢
          omega
        · obtain ⟨v, g1, _⟩ := hcell i hi j hj
          rw [g1]; rfl
        · obtain ⟨v, g1, g2, _⟩ := hcell i hi j hj
          simp only [g1]; exact g2
        · obtain ⟨v, g1, _, g3⟩ := hcell i hi j hj
          simp only [g1]; exact g3
      · cases h
    · rename_i cs _ _ fs hu
      split at h
      · rename_i hlen
        simp only [Option.map_eq_some_iff] at h
        obtain ⟨xs, hx, rfl⟩ := h
        obtain ⟨k1, k2, k3⟩ := K.struct hT hu
        have hlx := mapM_some_length hx
        simp only [dVal, hu]
        have hg : ∀ (i : Nat) (g : D), ((fs.toList.zip (xs.map (·.1))).map fun p => dVal P f p.1.type p.2)[i]? = some g → ∃ (fl : Field) (y : DataW H × List MemPlace), fs.toList[i]? = some fl ∧ xs[i]? = some y ∧ g = dVal P f fl.type y.1 ∧ CR w β ((cs.drop fl.offset).take (P.cellsOf fl.type)) g ∧ (cells g).length = P.cellsOf fl.type := by
          intro i g hg
          rw [List.getElem?_map] at hg
          have hil : i < fs.toList.length := by
            rcases Nat.lt_or_ge i fs.toList.length with h | h
            · exact h
            · rw [List.getElem?_eq_none (by simp only [List.length_map, List.length_zip]; omega)] at hg; cases hg
          obtain ⟨fl, y, g1, g2, g3⟩ := mapM_get hx i hil
          have hz2 : (fs.toList.zip (xs.map (·.1)))[i]? = some (fl, y.1) := by
            rw [List.getElem?_zip_eq_some]
            exact ⟨g1, by rw [List.getElem?_map, g2]; rfl⟩
          rw [hz2] at hg
          cases hg
          have h5 := ih fl.type _ y (k1 fl (List.mem_of_getElem? g1)) g3
          refine ⟨fl, y, g1, g2, rfl, h5, h5.len.trans ?_⟩
          have hoff := k3 i fl g1
          rw [List.length_take, List.length_drop, hlen, k2]
          have hsum : ((fs.toList.take i).map fun f => P.cellsOf f.type).sum + P.cellsOf fl.type ≤ (fs.toList.map fun f => P.cellsOf f.type).sum := by
            have h6 : fs.toList = fs.toList.take i ++ (fl :: fs.toList.drop (i + 1)) := by
              have h7 : fs.toList.drop i = fl :: fs.toList.drop (i + 1) := by rw [List.drop_eq_getElem_cons hil, (List.getElem?_eq_some_iff.1 g1).2]
              rw [← h7, List.take_append_drop]
            conv => rhs; rw [h6]
            rw [List.map_append, List.sum_append, List.map_cons, List.sum_cons]
            omega
          omega
        have hfm : (fs.toList.zip (xs.map (·.1))).flatMap (fun p => cells (dVal P f p.1.type p.2)) = ((fs.toList.zip (xs.map (·.1))).map fun p => dVal P f p.1.type p.2).flatMap cells := by rw [List.flatMap_map]
        have hsz : ∀ i, i ≤ fs.toList.length → ((((fs.toList.zip (xs.map (·.1))).map fun p => dVal P f p.1.type p.2).take i).map fun g => (cells g).length) = (fs.toList.take i).map fun f => P.cellsOf f.type := by
          intro i hi
          refine List.ext_getElem? fun j => ?_
          rw [List.getElem?_map, List.getElem?_map, List.getElem?_take, List.getElem?_take]
          split
          · have hjl : j < fs.toList.length := by omega
            have hgl : ((fs.toList.zip (xs.map (·.1))).map fun p => dVal P f p.1.type p.2)[j]? = some (((fs.toList.zip (xs.map (·.1))).map fun p => dVal P f p.1.type p.2)[j]'(by simp only [List.length_map, List.length_zip]; omega)) := List.getElem?_eq_getElem _
            obtain ⟨fl, y, g1, g2, g3, g4, g5⟩ := hg j _ hgl
            rw [hgl, g1]
            simp only [Option.map_some, Option.some.injEq]
            exact g5
          · rfl
        rw [hfm]
        refine row_rep (starts := fun i => ((fs.toList.take i).map fun f => P.cellsOf f.type).sum) ?_ (fun i g hgi => ?_) (fun i g hgi => ?_)
        · rw [List.length_flatMap, hlen, k2]
          have := hsz fs.toList.length (Nat.le_refl _)
          rw [List.take_length, List.take_of_length_le (by simp only [List.length_map, List.length_zip]; omega)] at this
          rw [← this]
        · obtain ⟨fl, y, g1, _⟩ := hg i g hgi
          rw [hsz i (Nat.le_of_lt (List.getElem?_eq_some_iff.1 g1).1)]
        · obtain ⟨fl, y, g1, g2, g3, g4, g5⟩ := hg i g hgi
          rw [g5, ← k3 i fl g1]
          exact g4
      · cases h
    · rename_i cs _ _ n e hu
      split at h
      · rename_i hlen
        simp only [Option.map_eq_some_iff] at h
        obtain ⟨xs, hx, rfl⟩ := h
        obtain ⟨k1, k2⟩ := K.array hT hu
        have hlx := mapM_some_length hx
        rw [List.length_range] at hlx
        simp only [dVal, hu]
        have hg : ∀ (i : Nat) (g : D), ((xs.map (·.1)).map (dVal P f e))[i]? = some g → i < n ∧ CR w β ((cs.drop (i * P.cellsOf e)).take (P.cellsOf e)) g ∧ (cells g).length = P.cellsOf e := by
          intro i g hg
          have hil : i < n := by
            rcases Nat.lt_or_ge i n with h | h
            · exact h
            · rw [List.getElem?_eq_none (by simp; omega)] at hg; cases hg
          obtain ⟨i', y, g1, g2, g3⟩ := mapM_get hx i (by simpa using hil)
          rw [List.getElem?_range hil] at g1
          cases g1
          rw [List.getElem?_map, List.getElem?_map, g2] at hg
          cases hg
          have h5 := ih e _ y k1 g3
          refine ⟨hil, h5, h5.len.trans ?_⟩
          rw [List.length_take, List.length_drop, hlen, k2]
          have : (i + 1) * P.cellsOf e ≤ n * P.cellsOf e := Nat.mul_le_mul_right _ hil
          rw [Nat.add_mul, Nat.one_mul] at this
          omega
        have hsz : ∀ i, i ≤ n → ((((xs.map (·.1)).map (dVal P f e)).take i).map fun g => (cells g).length).sum = i * P.cellsOf e := by
          intro i
          induction i with
          | zero => intro _; simp
          | succ i ihi =>
            intro hi
            have hgl : ((xs.map (·.1)).map (dVal P f e))[i]? = some (((xs.map (·.1)).map (dVal P f e))[i]'(by simp; omega)) := List.getElem?_eq_getElem _
            obtain ⟨_, _, g3⟩ := hg i _ hgl
            rw [List.take_add_one, hgl, List.map_append, List.sum_append, ihi (by omega)]
            simp only [Option.toList_some, List.map_cons, List.map_nil, List.sum_cons, List.sum_nil, g3]
            rw [Nat.add_mul, Nat.one_mul]
            omega
        rw [show (xs.map (·.1)).flatMap (fun p => cells (dVal P f e p)) = ((xs.map (·.1)).map (dVal P f e)).flatMap cells by simp only [List.flatMap_map]]
        refine row_rep (starts := fun i => i * P.cellsOf e) ?_ (fun i g hgi => ?_) (fun i g hgi => ?_)
        · rw [List.length_flatMap, hlen, k2]
          have := hsz n (Nat.le_refl _)
          rw [List.take_of_length_le (by simp; omega)] at this
          exact this
        · rw [hsz i (Nat.le_of_lt (hg i g hgi).1)]
        · obtain ⟨_, g2, g3⟩ := hg i g hgi
          rw [g3]; exact g2
      · cases h
    · rename_i hu; cases h; exact oneJ rfl (by simp only [dVal, hu])
    · rename_i hu
      simp only at h
      cases h
      exact oneJ rfl (by simp only [dVal, hu])
    · rename_i hu; cases h; simp only [dVal, hu]; exact CR.single rfl rfl .nilm
    · rename_i k e b hu
      split at h
      · split at h
        · simp only [Option.bind_eq_some_iff] at h
          obtain ⟨es, _, h⟩ := h
          split at h
          · cases h; exact oneJ rfl (by simp only [dVal, hu])
          · cases h
        · cases h
      · cases h
    · rename_i hu; cases h; exact oneJ rfl (by simp only [dVal, hu])
    · rename_i hu; cases h; exact oneJ rfl (by simp only [dVal, hu])
    · rename_i hu; cases h; exact oneJ rfl (by simp only [dVal, hu])
    · rename_i hu; simp only [if_true] at h; cases h; exact oneJ rfl (by simp only [dVal, hu])
    · rename_i hu; simp only [if_true] at h; cases h; exact oneJ rfl (by simp only [dVal, hu])
    · rename_i hu; simp only [if_true] at h; cases h; exact oneJ rfl (by simp only [dVal, hu])
    · cases h
end
end Go.Proofs.Ytdijijblccmfbaa
