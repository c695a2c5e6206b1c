/- Code, run: what a piece of code needs and leaves; calls; rounds. First part. No condition. -/
import Derived.Test.YtdijijblccmfbaaA16
import Derived.RangeFuncLeaves
import Derived.LoopNIn
set_option linter.unusedSimpArgs false
set_option linter.unusedVariables false
namespace Go.Proofs.Ytdijijblccmfbaa
open Go

def FR (ro : Option Nat) : Fence := { Fence.wide with round := ro }
theorem FR_none : FR none = Fence.wide := rfl
theorem FR_fn (ro : Option Nat) (f : FuncId) : (FR ro).fn f := trivial
theorem FR_depth (ro : Option Nat) {p : Prop} : (FR ro).depth.isSome = true → p := fun h => by cases h
def RCc (P : Program) : Nat → Code → DCode → Prop := fun m c d => cCode P m c = d
def mark1 (r : Nat) : Deferred := { target := .collected r, args := #[] }
def exOf : Ex → Exit
  | .normal => .normal
  | .exit i => .exit i
  | .ret => .ret

/-- the blocks that an activation's rounds have, of its own -/
def DefOk (s0 : Nat) (w : World) (β : Nat → Bk) (h : Hps) (ds : List Deferred) : Prop :=
  ∃ rs : List Nat, ds = rs.map mark1 ∧ rs.Nodup ∧ ∀ r, r ∈ rs → s0 ≤ r ∧ w.heap[r]? = some (.deferred (some [])) ∧ ¬ Tk β h r
/-- the loop whose round the activation is -/
def RoOk (w : World) (β : Nat → Bk) (h : Hps) (ro : Option Nat) : Prop := ∀ l, ro = some l → ∃ L, w.heap[l]? = some (.loop L) ∧ ¬ Tk β h l

structure St (P : Program) (s0 : Nat) (ro : Option Nat) (m : Nat) (Fb : Nat → Prop) (β : Nat → Bk) (n : Nat) (h : Hps) (e : Tr) (a : Act) (w : World) : Prop where
  inv : Inv (RCc P) β (Lt n) Fb h w
  env : EnvOk w (Mk β Fb h) β (Lt n) a.tmps e
  sz : m ≤ a.tmps.size
  dfr : DefOk s0 w β h a.defers
  rnd : RoOk w β h ro
  s0 : s0 ≤ w.heap.size

section
variable {P : Program} {s0 : Nat} {ro : Option Nat} {m : Nat} {Fb : Nat → Prop} {β : Nat → Bk} {n : Nat} {h : Hps} {e : Tr} {a : Act} {w : World}

theorem lt_of_some {w : World} {b : Nat} {o : Obj} (h : w.heap[b]? = some o) : b < w.heap.size := (Array.getElem?_eq_some_iff.1 h).1
theorem DefOk.adv {β' : Nat → Bk} {U U' : Us} {h' : Hps} {w' : World} {ds : List Deferred} (x : Adv β U h w β' U' h' w') (D : DefOk s0 w β h ds) : DefOk s0 w' β' h' ds := by
  obtain ⟨rs, h1, h2, h3⟩ := D
  refine ⟨rs, h1, h2, fun r hr => ?_⟩
  obtain ⟨h4, h5, h6⟩ := h3 r hr
  have hlt := lt_of_some h5
  exact ⟨h4, (x.keep r hlt h6).trans h5, fun ht => h6 (x.shr r hlt ht)⟩
theorem RoOk.adv {β' : Nat → Bk} {U U' : Us} {h' : Hps} {w' : World} (x : Adv β U h w β' U' h' w') (R : RoOk w β h ro) : RoOk w' β' h' ro := by
  intro l hl
  obtain ⟨L, h5, h6⟩ := R l hl
  have hlt := lt_of_some h5
  exact ⟨L, (x.keep l hlt h6).trans h5, fun ht => h6 (x.shr l hlt ht)⟩

/-- the activation goes on in a later world -/
theorem St.adv {β' : Nat → Bk} {n' : Nat} {h' : Hps} {w' : World} (S : St P s0 ro m Fb β n h e a w) (I : Inv (RCc P) β' (Lt n') Fb h' w') (x : Adv β (Lt n) h w β' (Lt n') h' w') : St P s0 ro m Fb β' n' h' e a w' :=
  ⟨I, S.env.adv x, S.sz, S.dfr.adv x, S.rnd.adv x, Nat.le_trans S.s0 x.size⟩
theorem St.put (S : St P s0 ro m Fb β n h e a w) (hm : m < 2 ^ 20) {dst : Option Nat} {dp : Option Po} (hd : cDst m dst = some dp) {v : Value} {d : D} (hv : Rep w (Mk β Fb h) β (Lt n) v d) : St P s0 ro m Fb β n h (putE e dp d) (a.put dst v) w := by
  refine ⟨S.inv, S.env.dst hm hv hd, ?_, ?_, S.rnd, S.s0⟩
  · cases dst with
    | none => exact S.sz
    | some t => show m ≤ (a.tmps.setIfInBounds t v).size; simpa using S.sz
  · cases dst with
    | none => exact S.dfr
    | some t => exact S.dfr
theorem St.m_lt (S : St P s0 ro m Fb β n h e a w) : m < 2 ^ 20 := Nat.lt_of_le_of_lt S.sz S.env.1

/-- what running data-level code is to mean -/
def CodeOk (P : Program) (X : RunF) : Prop :=
  ∀ {c : Code} {s0 : Nat} {ro : Option Nat} {m : Nat} {Fb : Nat → Prop} {β : Nat → Bk} {n : Nat} {h : Hps} {e : Tr} {a : Act} {w : World} {x : Ex} {e' : Tr} {n' : Nat} {h' : Hps} {Q : Exit → Act → World → Prop},
    St P s0 ro m Fb β n h e a w → X (cCode P m c) e n h = .ok x e' n' h' →
    (∀ β' a' w', St P s0 ro m Fb β' n' h' e' a' w' → Adv β (Lt n) h w β' (Lt n') h' w' → Q (exOf x) a' w') → c.wpIn (FR ro) 0 P Q a w

/-! ### arguments -/
theorem argsT_get {U : Us} {M : Nat → Prop} : ∀ (k s : Nat) (vs : List Value) (ds : List D), s + k ≤ 2 ^ 20 → vs.length = ds.length → ds.length = k → (∀ i, i < ds.length → Rep w M β U (vs.getD i undef) (ds.getD i .junk)) →
    ∀ t, t < 2 ^ 20 → (s ≤ t → t < s + k → Rep w M β U (vs.getD (t - s) undef) (get (po t) (argsT ds ((List.range' s k).map po)))) ∧ (¬ (s ≤ t ∧ t < s + k) → get (po t) (argsT ds ((List.range' s k).map po)) = .junk) := by
  have hlf : ∀ p, get p .lf = .junk := by
    intro p
    induction p with
    | h => rfl
    | o p ih => exact ih
    | i p ih => exact ih
  intro k
  induction k with
  | zero =>
    intro s vs ds _ _ hk _ t ht
    have : ds = [] := List.length_eq_zero_iff.1 hk
    subst this
    exact ⟨fun h1 h2 => by omega, fun _ => hlf _⟩
  | succ k ih =>
    intro s vs ds hs hl hk hr t ht
    cases ds with
    | nil => cases hk
    | cons d ds =>
      cases vs with
      | nil => cases hl
      | cons v vs =>
        have he : argsT (d :: ds) ((List.range' s (k + 1)).map po) = putT (po s) d (argsT ds ((List.range' (s + 1) k).map po)) := rfl
        rw [he]
        have hi := ih (s + 1) vs ds (by omega) (by simpa using hl) (by simpa using hk) (fun i hi => by simpa using hr (i + 1) (by simp; omega)) t ht
        by_cases e : s = t
        · subst e
          rw [get_put_same]
          exact ⟨fun _ _ => by simpa using hr 0 (by simp), fun h => absurd ⟨Nat.le_refl _, by omega⟩ h⟩
        · rw [get_put_ne d (po t) (po s) _ (fun h => e (po_inj (by omega) ht h.symm))]
          refine ⟨fun h1 h2 => ?_, fun h1 => hi.2 (fun h2 => h1 ⟨by omega, by omega⟩)⟩
          have := hi.1 (by omega) (by omega)
          have e2 : t - s = (t - (s + 1)) + 1 := by omega
          rw [e2]
          simpa using this
theorem lenP_eq (l : List Po) : lenP l = l.length := by
  induction l with
  | nil => rfl
  | cons a l ih => show Nat.succ (lenP l) = _; rw [ih]; rfl

theorem args_env {U : Us} {M : Nat → Prop} {vs : Array Value} {ds : List D} {k nt : Nat} (hl : vs.size = ds.length) (hr : ∀ i, i < ds.length → Rep w M β U (vs.getD i undef) (ds.getD i .junk)) (hk : ds.length = k) (hkn : k ≤ nt) (hnt : nt < 2 ^ 20) :
    EnvOk w M β U (vs ++ Array.replicate (nt - vs.size) undef) (argsT ds ((List.range k).map po)) := by
  refine ⟨by simp; omega, fun t ht => ?_⟩
  have ht2 : t < nt := by simp at ht; omega
  have hg := argsT_get (w := w) (β := β) (U := U) (M := M) k 0 vs.toList ds (by omega) (by simpa using hl) hk (fun i hi => by rw [getD_toList]; exact hr i hi) t (by omega)
  rw [List.range_eq_range']
  by_cases htk : t < k
  · have h1 := hg.1 (Nat.zero_le _) (by omega)
    have e : (vs ++ Array.replicate (nt - vs.size) undef).getD t undef = vs.toList.getD (t - 0) undef := by
      rw [getD_toList]
      simp [Array.getD_eq_getD_getElem?, Array.getElem?_append_left (show t < vs.size by omega)]
    rw [e]
    exact h1
  · rw [hg.2 (fun h => htk (by omega))]
    exact .junk
end
end Go.Proofs.Ytdijijblccmfbaa
