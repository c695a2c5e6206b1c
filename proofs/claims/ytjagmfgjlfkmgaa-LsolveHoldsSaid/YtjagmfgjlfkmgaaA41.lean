/- Builders beside other objects that are looked at or written; maps. No condition. -/
import Derived.Test.YtjagmfgjlfkmgaaA40
set_option linter.unusedSimpArgs false
set_option linter.unusedVariables false
namespace Go.Proofs.Ytjagmfgjlfkmgaa
open Go

/-- a value that is no row of the number q -/
def off (q : Nat) (d : D) : Prop := ∀ k o l f, d ≠ .ms k q o l f
theorem Bld.off {α : Type} {enc : α → D} {k n1 m q : Nat} {h : Hps} {l : List α} {d : D} (hB : Bld k enc n1 l h d) (hg : GoodAt m h) (hq : m ≤ q) : Go.Proofs.Ytjagmfgjlfkmgaa.off q d := by
  rcases hB with ⟨_, rfl⟩ | ⟨r, _, _, rfl, q4⟩
  · exact fun _ _ _ _ e => by cases e
  · have := getO_low hg (show getO h r ≠ .none by rw [q4]; exact fun h => by cases h)
    exact fun _ _ _ _ e => by cases e; omega
theorem Bld.off' {α : Type} {enc : α → D} {k n1 q : Nat} {h : Hps} {l : List α} {d : D} (hB : Bld k enc n1 l h d) (hq : q < n1) : Go.Proofs.Ytjagmfgjlfkmgaa.off q d := by
  rcases hB with ⟨_, rfl⟩ | ⟨r, _, q2, rfl, _⟩
  · exact fun _ _ _ _ e => by cases e
  · exact fun _ _ _ _ e => by cases e; omega
theorem Bld.setz {α : Type} {enc : α → D} {h : Hps} {k n1 q kk : Nat} {es : List D} {l : List α} {d : D} {x : Ob} (hB : Bld k enc n1 l h d) (hg : getO h q = .row kk es) (hq : Go.Proofs.Ytjagmfgjlfkmgaa.off q d) : Bld k enc n1 l (setO h q x) d := by
  rcases hB with hB | ⟨r, q1, q2, rfl, q4⟩
  · exact .inl hB
  · exact .inr ⟨r, q1, q2, rfl, by rw [getO_setO _ _ _ _ (by rw [hg]; exact fun h => by cases h), if_neg (fun e => hq _ _ _ _ (by rw [e]))]; exact q4⟩
theorem Bld.consz {α : Type} {enc : α → D} {h : Hps} {k n1 q : Nat} {l : List α} {d : D} {x : Ob} (hB : Bld k enc n1 l h d) (hq : Go.Proofs.Ytjagmfgjlfkmgaa.off q d) : Bld k enc n1 l ((q, x) :: h) d := by
  rcases hB with hB | ⟨r, q1, q2, rfl, q4⟩
  · exact .inl hB
  · exact .inr ⟨r, q1, q2, rfl, by rw [getO_tl (fun e => hq _ _ _ _ (by rw [e]))]; exact q4⟩
/-- appending, where other objects are looked at behind it, wherever they lie -/
theorem app_bldz {α : Type} {enc : α → D} {k b n n0 n1 : Nat} {h h0 : Hps} {l : List α} {d : D} (hB : Bld k enc n1 l h d) (H : Hp n0 h0 n h) (h01 : n0 ≤ n1) (h1n : n1 ≤ n) (he : ∀ m x, low m (enc x)) (xs : List α) (hs : (l.length + xs.length) * b ≤ 140737488355328) :
    ∃ (D' : Nat → D) (H' : Nat → Hps), ∀ m, n ≤ m → appD m h k b d (.ok k (xs.map enc)) = .ok (D' m) m (H' m) ∧ Bld k enc n1 (l ++ xs) (H' m) (D' m) ∧ Hp n0 h0 (m + 1) (H' m) ∧ (∀ q, q < n → off q d → getO (H' m) q = getO h q ∧ off q (D' m)) ∧ low (m + 1) (D' m) := by
  have hle := H.le
  cases xs with
  | nil =>
    refine ⟨fun _ => d, fun _ => h, fun m hm => ⟨?_, by rw [List.append_nil]; exact hB, H.mono (by omega), fun _ _ h => ⟨rfl, h⟩, ?_⟩⟩
    · have : ∀ d, (d = .nils ∨ ∃ r, d = .ms k r 0 l.length false) → appD m h k b d (.ok k []) = .ok d m h := by
        intro d hd
        show ifR (Nat.beq k k) (appW m h k b d []) = _
        rw [Nat.beq_refl, ifR_true]
        rcases hd with rfl | ⟨r, rfl⟩ <;> rfl
      rcases hB with ⟨_, rfl⟩ | ⟨r, _, _, rfl, _⟩
      · exact this _ (.inl rfl)
      · exact this _ (.inr ⟨r, rfl⟩)
    · rcases hB with ⟨_, rfl⟩ | ⟨r, _, _, rfl, hg⟩
      · exact low_flat rfl
      · exact low_ms (Nat.lt_of_lt_of_le (getO_low (H.good n (Nat.le_refl _)) (show getO h r ≠ .none by rw [hg]; exact fun h => by cases h)) (by omega))
  | cons x xt =>
    have hlow : ∀ (l : List α) q k, lowO q (.row k (l.map enc)) := fun l q k => lowO_map (fun x => he q x)
    simp only [List.length_cons] at hs
    rcases hB with ⟨rfl, rfl⟩ | ⟨r, hne, hr, rfl, hg⟩
    · refine ⟨fun m => .ms k m 0 (xt.length + 1) false, fun m => (m, .row k ((x :: xt).map enc)) :: h, fun m hm => ⟨?_, ?_, ?_, fun q hq _ => ⟨getO_tl (by omega), fun _ _ _ _ e => by cases e; omega⟩, low_ms (by omega)⟩⟩
      · have := appD_nils (n := m) (h := h) (b := b) (q := k) (x := enc x) (xt := xt.map enc) (by rw [List.length_map]; simpa using hs)
        rw [List.length_map] at this
        exact this
      · exact .inr ⟨m, by simp, by omega, by simp, by rw [getO_hd]; rfl⟩
      · exact H.cons hm (by omega) (fun q _ => hlow _ _ _)
    · refine ⟨fun m => .ms k m 0 (l.length + (xt.length + 1)) false, fun m => (m, .row k (l.map enc ++ (x :: xt).map enc)) :: delO h r, fun m hm => ⟨?_, ?_, ?_, fun q hq ho => ⟨?_, fun _ _ _ _ e => by cases e; omega⟩, low_ms (by omega)⟩⟩
      · have := appD_ms (n := m) (h := h) (b := b) (q := k) (r := r) (m := l.length) (es := l.map enc) (xs := (x :: xt).map enc) (x := enc x) (xt := xt.map enc) rfl hg (by rw [List.length_map]) (by simpa using hs)
        simpa using this
      · exact .inr ⟨m, by simp, by omega, by simp, by rw [getO_hd, List.map_append]⟩
      · refine (H.del (Nat.le_trans h01 hr)).cons hm (by omega) (fun q _ => ?_)
        rw [← List.map_append]
        exact hlow _ _ _
      · rw [getO_tl (by omega), getO_delO, if_neg (fun e => ho _ _ _ _ (by rw [e]))]

theorem Hp.map {n0 n m r : Nat} {h0 h : Hps} {es : List (D × D)} (H : Hp n0 h0 n h) (hr : n ≤ r) (hm : r < m) (hes : ∀ k, obR1 k (.map es) = false) : Hp n0 h0 m ((r, .map es) :: h) :=
  H.cons hr hm (fun k _ => hes k)
/-- maps from numbers -/
theorem find_app {k : Int} : ∀ (l : List (Int × D)), findK (.int .i64) (.int .i64 k) (l.map fun p => (.int .i64 p.1, p.2)) = (match l.find? (fun p => p.1 == k) with | some p => .some p.2 | none => .none)
  | [] => rfl
  | p :: t => by
    show findK1 (findK (.int .i64) (.int .i64 k) (t.map fun p => (.int .i64 p.1, p.2))) p.2 (eq1 (.int .i64) (.int .i64 k) (.int .i64 p.1)) = _
    rw [eq1_int, find_app t, List.find?_cons]
    by_cases h : k = p.1
    · rw [decide_eq_true h, show (p.1 == k) = true by rw [h]; exact beq_self_eq_true _]; rfl
    · rw [decide_eq_false h, show (p.1 == k) = false by rw [beq_eq_false_iff_ne]; exact fun e => h e.symm]; rfl
theorem put_app {k : Int} {x : D} : ∀ (l : List (Int × D)), (∀ p, p ∈ l → p.1 ≠ k) → putK (.int .i64) (.int .i64 k) x (l.map fun p => (.int .i64 p.1, p.2)) = (l ++ [(k, x)]).map fun p => (.int .i64 p.1, p.2)
  | [], _ => rfl
  | p :: t, h => by
    show putK1 (.int .i64 k) x (.int .i64 p.1, p.2) (t.map fun p => (.int .i64 p.1, p.2)) (putK (.int .i64) (.int .i64 k) x (t.map fun p => (.int .i64 p.1, p.2))) (eq1 (.int .i64) (.int .i64 k) (.int .i64 p.1)) = _
    rw [eq1_int, decide_eq_false (fun e => h p (by simp) e.symm), put_app t (fun q hq => h q (by simp [hq]))]
    rfl
theorem low_mp {m r : Nat} (hr : r < m) : low m (.mp r) := ble_f hr
end Go.Proofs.Ytjagmfgjlfkmgaa
