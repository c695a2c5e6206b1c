/- An operation sees no more than what it reads, and changes no more than what it touches. No condition. -/
import Derived.Test.YtdijijblccmfbaaA22
set_option linter.unusedSimpArgs false
set_option linter.unusedVariables false
namespace Go.Proofs.Ytdijijblccmfbaa
open Go

def Still (F : Hps → Rd) : Prop := ∀ h h' d n1 h1, F h = .ok d n1 h1 → h1 = h ∧ F h' = .ok d n1 h'
theorem Still.ok (d : D) (n : Nat) : Still fun h => .ok d n h := by
  intro h h' d1 n1 h1 e
  cases e
  exact ⟨rfl, rfl⟩
theorem Still.bad : Still fun _ => .bad := by
  intro h h' d n1 h1 e
  cases e
theorem Still.okD (n : Nat) (x : D) : Still fun h => Go.Proofs.Ytdijijblccmfbaa.okD n h x := by
  intro h h' d n1 h1 e
  obtain ⟨rfl, rfl, rfl, h2⟩ := okD_inv e
  exact ⟨rfl, by cases x <;> first | rfl | exact absurd rfl h2⟩
theorem Still.ifR {F : Hps → Rd} (b : Bool) (hF : Still F) : Still fun h => Go.Proofs.Ytdijijblccmfbaa.ifR b (F h) := by
  intro h h' d n1 h1 e
  cases b with
  | true => exact hF h h' d n1 h1 e
  | false => cases e
theorem Still.natR {F : Hps → Nat → Rd} (x : D) (hF : ∀ m, Still fun h => F h m) : Still fun h => Go.Proofs.Ytdijijblccmfbaa.natR (F h) x := by
  cases x with
  | int k i => cases i with
    | ofNat m => exact hF m
    | negSucc m => exact Still.bad
  | _ => exact Still.bad
theorem Still.optN {F : Hps → Nat → Rd} (e : Tr) (x : Option Opd) (m : Nat) (hF : ∀ m, Still fun h => F h m) : Still fun h => Go.Proofs.Ytdijijblccmfbaa.optN e x m (F h) := by
  cases x with
  | none => exact hF m
  | some x => exact Still.natR _ hF

theorem ev_eq {e e' : Tr} {x : Opd} (h : ∀ p, p ∈ rdO x → get p e = get p e') : ev e x = ev e' x := by
  cases x with
  | s p => exact h p (by simp [rdO])
  | k d => rfl
theorem evs_cons (e : Tr) (x : Opd) (t : List Opd) : evs e (x :: t) = ev e x :: evs e t := rfl
theorem evs_same {e e' : Tr} : ∀ {l : List Opd}, (∀ p, p ∈ rdOs l → get p e = get p e') → evs e l = evs e' l
  | [], _ => rfl
  | x :: t, h => by
    rw [evs_cons, evs_cons, ev_eq (fun p hp => h p (List.mem_append_left _ hp)), evs_same (fun p hp => h p (List.mem_append_right _ hp))]
theorem fillP_same {e e' : Tr} : ∀ {l : List (Nat × Nat × Opd)} (z : Option (List D)), (∀ p, p ∈ rdPs l → get p e = get p e') → fillP e l z = fillP e' l z
  | [], _, _ => rfl
  | x :: t, z, h => by
    show fillP e t (fld2 x.2.1 x.1 z (cellsX (ev e x.2.2))) = fillP e' t (fld2 x.2.1 x.1 z (cellsX (ev e' x.2.2)))
    rw [ev_eq (fun p hp => h p (List.mem_append_left _ hp))]
    exact fillP_same _ (fun p hp => h p (List.mem_append_right _ hp))
theorem optN_same {e e' : Tr} {x : Option Opd} {m : Nat} {f : Nat → Rd} (h : ∀ p, p ∈ rdM x → get p e = get p e') : optN e x m f = optN e' x m f := by
  cases x with
  | none => rfl
  | some x => show natR f (ev e x) = natR f (ev e' x); rw [ev_eq h]

/-- what the two runs have in common -/
def Fr (T : List Nat) (h h' : Hps) (r r' : Rd) : Prop := ∀ d n1 h1, r = .ok d n1 h1 → ∃ h1', r' = .ok d n1 h1' ∧ (∀ q, q ∈ T → getO h1' q = getO h1 q) ∧ ∀ q, q ∉ T → getO h1 q = getO h q ∧ getO h1' q = getO h' q
theorem Fr.still {T : List Nat} {h h' : Hps} {F : Hps → Rd} (hF : Still F) (hh : ∀ q, q ∈ T → getO h q = getO h' q) : Fr T h h' (F h) (F h') := by
  intro d n1 h1 e
  obtain ⟨rfl, h2⟩ := hF h h' d n1 h1 e
  exact ⟨h', h2, fun q hq => (hh q hq).symm, fun q _ => ⟨rfl, rfl⟩⟩
theorem Fr.bad {T : List Nat} {h h' : Hps} {r : Rd} : Fr T h h' .bad r := fun d n1 h1 e => by cases e
theorem Fr.cons {T : List Nat} {h h' : Hps} {d : D} {n m : Nat} {x : Ob} (hm : m ∈ T) (hh : ∀ q, q ∈ T → getO h q = getO h' q) : Fr T h h' (.ok d n ((m, x) :: h)) (.ok d n ((m, x) :: h')) := by
  intro d1 n1 h1 e
  cases e
  refine ⟨_, rfl, fun q hq => ?_, fun q hq => ?_⟩
  · rw [getO_cons, getO_cons, hh q hq]
  · have : m ≠ q := fun e => hq (e ▸ hm)
    rw [getO_cons, getO_cons, if_neg this, if_neg this]
    exact ⟨rfl, rfl⟩
theorem Fr.set {T : List Nat} {h h' : Hps} {d : D} {n r : Nat} {x : Ob} (hr : r ∈ T) (hh : ∀ q, q ∈ T → getO h q = getO h' q) (hp : getO h r ≠ .none) : Fr T h h' (.ok d n (setO h r x)) (.ok d n (setO h' r x)) := by
  intro d1 n1 h1 e
  cases e
  have hp' : getO h' r ≠ .none := (hh r hr) ▸ hp
  refine ⟨_, rfl, fun q hq => ?_, fun q hq => ?_⟩
  · rw [getO_setO _ _ _ _ hp, getO_setO _ _ _ _ hp', hh q hq]
  · have : q ≠ r := fun e => hq (e ▸ hr)
    rw [getO_setO _ _ _ _ hp, getO_setO _ _ _ _ hp', if_neg this, if_neg this]
    exact ⟨rfl, rfl⟩
theorem Fr.consDel {T : List Nat} {h h' : Hps} {d : D} {n m r : Nat} {x : Ob} (hm : m ∈ T) (hr : r ∈ T) (hh : ∀ q, q ∈ T → getO h q = getO h' q) : Fr T h h' (.ok d n ((m, x) :: delO h r)) (.ok d n ((m, x) :: delO h' r)) := by
  intro d1 n1 h1 e
  cases e
  refine ⟨_, rfl, fun q hq => ?_, fun q hq => ?_⟩
  · rw [getO_cons, getO_cons, getO_delO, getO_delO, hh q hq]
  · have h1 : m ≠ q := fun e => hq (e ▸ hm)
    have h2 : q ≠ r := fun e => hq (e ▸ hr)
    rw [getO_cons, getO_cons, if_neg h1, if_neg h1, getO_delO, getO_delO, if_neg h2, if_neg h2]
    exact ⟨rfl, rfl⟩
theorem Fr.ifR {T : List Nat} {h h' : Hps} {b : Bool} {r r' : Rd} (hr : b = true → Fr T h h' r r') : Fr T h h' (Go.Proofs.Ytdijijblccmfbaa.ifR b r) (Go.Proofs.Ytdijijblccmfbaa.ifR b r') := by
  cases b with
  | true => exact hr rfl
  | false => exact Fr.bad
theorem Fr.brec {T : List Nat} {h h' : Hps} {b : Bool} {r r' s s' : Rd} (hr : b = false → Fr T h h' r r') (hs : b = true → Fr T h h' s s') : Fr T h h' (Bool.rec (motive := fun _ => Rd) r s b) (Bool.rec (motive := fun _ => Rd) r' s' b) := by
  cases b with
  | false => exact hr rfl
  | true => exact hs rfl

theorem view_same {k : Nat} {h h' : Hps} {x : D} (hh : ∀ q, q ∈ refO x → getO h q = getO h' q) : view k h x = view k h' x := by
  cases x with
  | ms k' r off len full => show viewR off len (getO h r) = viewR off len (getO h' r); rw [hh r (by simp [refO])]
  | _ => rfl

theorem opD_frame {e e' : Tr} {n : Nat} {h h' : Hps} {o : DOp} (he : ∀ p, p ∈ rdOp o → get p e = get p e') (hh : ∀ q, q ∈ touch e n o → getO h q = getO h' q) : Fr (touch e n o) h h' (opD e n h o) (opD e' n h' o) := by
  have l : ∀ {x y : List Po}, (∀ p, p ∈ x ++ y → get p e = get p e') → ∀ p, p ∈ x → get p e = get p e' := fun h p hp => h p (List.mem_append_left _ hp)
  have r : ∀ {x y : List Po}, (∀ p, p ∈ x ++ y → get p e = get p e') → ∀ p, p ∈ y → get p e = get p e' := fun h p hp => h p (List.mem_append_right _ hp)
  have hbox : ∀ {k d}, n ∈ touch e n o → Fr (touch e n o) h h' (boxD n h k d) (boxD n h' k d) := by
    intro k d hn
    cases d <;> first | exact Fr.bad | exact Fr.ifR (fun _ => Fr.cons hn hh)
  cases o with
  | mv x => simp only [opD]; rw [ev_eq he]; exact Fr.still (F := fun h => .ok _ _ h) (Still.ok _ _) hh
  | pick c a b =>
    simp only [opD]
    rw [ev_eq (l he), ev_eq (l (r he)), ev_eq (r (r he))]
    refine Fr.still (F := fun h => pickD n h _ _ _) ?_ hh
    cases ev e' c <;> first | exact Still.ok _ _ | exact Still.bad
  | new k z => exact hbox (by simp [touch])
  | box k x => simp only [opD]; rw [ev_eq he]; exact hbox (by simp [touch])
  | build zs ps =>
    simp only [opD]
    rw [fillP_same _ he]
    refine Fr.still (F := fun h => buildD n h _) ?_ hh
    cases fillP e' ps (some zs) <;> first | exact Still.ok _ _ | exact Still.bad
  | bsl k es =>
    simp only [opD]
    rw [evs_same he]
    exact Fr.brec (fun _ => Fr.ifR (fun _ => Fr.cons (by simp [touch]) hh)) (fun _ => Fr.still (F := fun h => .ok _ _ h) (Still.ok _ _) hh)
  | load ag k a =>
    have hx := ev_eq he
    simp only [touch] at hh
    simp only [opD, touch]
    rw [hx] at hh ⊢
    cases hv : ev e' a with
    | ptr q i j =>
      rw [hv] at hh
      show Fr [q] h h' (loadR ag k i j n h (getO h q)) (loadR ag k i j n h' (getO h' q))
      rw [← hh q (by simp [refO])]
      refine Fr.still (F := fun h1 => loadR ag k i j n h1 (getO h q)) ?_ hh
      cases getO h q <;> first | exact Still.okD _ _ | exact Still.bad
    | ip y j => exact Fr.still (F := fun h => okD n h _) (Still.okD _ _) (by intro q hq; cases hq)
    | _ => exact Fr.bad
  | store ag k a x =>
    have hx := ev_eq (l he)
    have hy := ev_eq (r he)
    simp only [touch] at hh
    simp only [opD, touch]
    rw [hx] at hh ⊢
    rw [hy]
    cases hv : ev e' a with
    | ptr q i j =>
      rw [hv] at hh
      show Fr [q] h h' (storeR ag k q i j (ev e' x) n h (getO h q)) (storeR ag k q i j (ev e' x) n h' (getO h' q))
      rw [← hh q (by simp [refO])]
      cases hg : getO h q with
      | row kk es =>
        show Fr [q] h h' (storeS q kk i es n h (setS ag k j (nth es i) (ev e' x))) (storeS q kk i es n h' (setS ag k j (nth es i) (ev e' x)))
        cases setS ag k j (nth es i) (ev e' x) <;> first | exact Fr.bad | exact Fr.ifR (fun _ => Fr.set (by simp) hh (by rw [hg]; exact fun h => by cases h))
      | _ => exact Fr.bad
    | _ => exact Fr.bad
  | bin op x y => simp only [opD]; rw [ev_eq (l he), ev_eq (r he)]; exact Fr.still (F := fun h => okD n h _) (Still.okD _ _) hh
  | cmp neg t x y =>
    simp only [opD]
    rw [ev_eq (l he), ev_eq (r he)]
    refine Fr.still (F := fun h => obR n h neg _) ?_ hh
    cases eqD t (ev e' x) (ev e' y) <;> first | exact Still.ok _ _ | exact Still.bad
  | not x => simp only [opD]; rw [ev_eq he]; refine Fr.still (F := fun h => notD n h _) ?_ hh; cases ev e' x <;> first | exact Still.ok _ _ | exact Still.bad
  | neg x => simp only [opD]; rw [ev_eq he]; refine Fr.still (F := fun h => negD n h _) ?_ hh; cases ev e' x <;> first | exact Still.ok _ _ | exact Still.bad
  | faddr o x => simp only [opD]; rw [ev_eq he]; refine Fr.still (F := fun h => faddrD n h o _) ?_ hh; cases ev e' x <;> first | exact Still.ok _ _ | exact Still.bad
  | fld ag o k x => simp only [opD]; rw [ev_eq he]; refine Fr.still (F := fun h => fldD n h ag o k _) ?_ hh; cases ev e' x <;> first | exact Still.okD _ _ | exact Still.bad
  | iaddr k x i =>
    simp only [opD]
    rw [ev_eq (l he), ev_eq (r he)]
    refine Fr.still (F := fun h => natR (iaddrD n h k _) _) (Still.natR _ (fun m => ?_)) hh
    cases ev e' x <;> first | exact Still.ifR _ (Still.ok _ _) | exact Still.bad
  | sidx x i =>
    simp only [opD]
    rw [ev_eq (l he), ev_eq (r he)]
    refine Fr.still (F := fun h => natR (sidxD n h _) _) (Still.natR _ (fun m => ?_)) hh
    cases ev e' x with
    | str s =>
      cases hn : nthN s m with
      | none =>
        have : (fun h => sidxD n h (.str s) m) = fun _ => Rd.bad := by funext h; simp only [sidxD, hn]
        rw [this]; exact Still.bad
      | some b =>
        have : (fun h => sidxD n h (.str s) m) = fun h => Rd.ok (.int .u8 (.ofNat b)) n h := by funext h; simp only [sidxD, hn]
        rw [this]; exact Still.ok _ _
    | _ => exact Still.bad
  | cvi k x => simp only [opD]; rw [ev_eq he]; refine Fr.still (F := fun h => cviD n h k _) ?_ hh; cases ev e' x <;> first | exact Still.ok _ _ | exact Still.bad
  | paddr k m x i =>
    simp only [opD]
    rw [ev_eq (l he), ev_eq (r he)]
    refine Fr.still (F := fun h => natR (paddrD n h k m _) _) (Still.natR _ (fun j => ?_)) hh
    cases ev e' x <;> first | exact Still.ifR _ (Still.ok _ _) | exact Still.bad
  | mdel t m k =>
    have hx := ev_eq (l he)
    simp only [touch] at hh
    simp only [opD, touch]
    rw [hx] at hh ⊢
    rw [ev_eq (r he)]
    cases hv : ev e' m with
    | mp q =>
      rw [hv] at hh
      show Fr [q] h h' (mdelR n h t q (ev e' k) (getO h q)) (mdelR n h' t q (ev e' k) (getO h' q))
      rw [← hh q (by simp [refO])]
      cases hg : getO h q with
      | map es =>
        show Fr [q] h h' (mdelF n h q (delK t (ev e' k) es) (findK t (ev e' k) es)) (mdelF n h' q (delK t (ev e' k) es) (findK t (ev e' k) es))
        cases findK t (ev e' k) es <;> first | exact Fr.bad | exact Fr.set (by simp) hh (by rw [hg]; exact fun h => by cases h)
      | _ => exact Fr.bad
    | _ => exact Fr.bad
  | aidx ag k m x i =>
    simp only [opD]
    rw [ev_eq (l he), ev_eq (r he)]
    refine Fr.still (F := fun h => natR (aidxD n h ag k m _) _) (Still.natR _ (fun m => ?_)) hh
    cases ev e' x <;> first | exact Still.ifR _ (Still.okD _ _) | exact Still.bad
  | slice k x lo hi mx =>
    simp only [opD]
    rw [ev_eq (l he)]
    have h2 : Still (fun h => slice2 n h k e' (ev e' x) lo hi) := by
      cases ev e' x <;> first | exact Still.ifR _ (Still.optN _ _ _ (fun _ => Still.optN _ _ _ (fun _ => Still.ifR _ (Still.ok _ _)))) | exact Still.optN _ _ _ (fun _ => Still.optN _ _ _ (fun _ => Still.ifR _ (Still.ok _ _))) | exact Still.bad
    have h3 : Still (fun h => slice3 n h k e' (ev e' x) lo hi mx) := by
      cases ev e' x <;> first | exact Still.ifR _ (Still.optN _ _ _ (fun _ => Still.optN _ _ _ (fun _ => Still.optN _ _ _ (fun _ => Still.ifR _ (Still.ok _ _))))) | exact Still.optN _ _ _ (fun _ => Still.optN _ _ _ (fun _ => Still.optN _ _ _ (fun _ => Still.ifR _ (Still.ok _ _)))) | exact Still.bad
    have e1 : ∀ {m f}, optN e lo m f = optN e' lo m f := optN_same (l (r he))
    have e2 : ∀ {m f}, optN e hi m f = optN e' hi m f := optN_same (l (r (r he)))
    have e3 : ∀ {m f}, optN e mx m f = optN e' mx m f := optN_same (r (r (r he)))
    have hs : sliceD n h k e (ev e' x) lo hi mx = sliceD n h k e' (ev e' x) lo hi mx := by
      unfold sliceD
      cases mx with
      | none => simp only [slice2, e1, e2]
      | some m => cases hi with
        | none => rfl
        | some u => simp only [slice3, e1, e2, e3]
    rw [hs]
    cases mx with
    | none => exact Fr.still h2 hh
    | some m => cases hi with
      | none => exact Fr.bad
      | some u => exact Fr.still h3 hh
  | sslice x lo hi =>
    simp only [opD]
    rw [ev_eq (l he)]
    have e1 : ∀ {m f}, optN e lo m f = optN e' lo m f := optN_same (l (r he))
    have e2 : ∀ {m f}, optN e hi m f = optN e' hi m f := optN_same (r (r he))
    have hs : ssliceD n h e (ev e' x) lo hi = ssliceD n h e' (ev e' x) lo hi := by unfold ssliceD; simp only [e1, e2]
    rw [hs]
    refine Fr.still (F := fun h => ssliceD n h e' _ lo hi) ?_ hh
    cases ev e' x <;> first | exact Still.optN _ _ _ (fun _ => Still.optN _ _ _ (fun _ => Still.ifR _ (Still.ok _ _))) | exact Still.bad
  | ext x i => simp only [opD]; rw [ev_eq he]; refine Fr.still (F := fun h => extD n h i _) ?_ hh; cases ev e' x <;> first | exact Still.okD _ _ | exact Still.bad
  | mkfn f a c => simp only [opD]; rw [evs_same (l he), evs_same (r he)]; exact Fr.still (F := fun h => .ok _ _ h) (Still.ok _ _) hh
  | mksl k b z x =>
    simp only [opD]
    rw [ev_eq he]
    cases ev e' x with
    | int kk i => cases i with
      | ofNat m => exact Fr.ifR (fun _ => Fr.cons (by simp [touch]) hh)
      | negSucc m => exact Fr.bad
    | _ => exact Fr.bad
  | nilck x => simp only [opD]; rw [ev_eq he]; refine Fr.still (F := fun h => nilckD n h _) ?_ hh; cases ev e' x <;> first | exact Still.ok _ _ | exact Still.bad
  | mkmap => exact Fr.cons (by simp [touch]) hh
  | look t z ok m i =>
    have hx := ev_eq (l he)
    have hy := ev_eq (r he)
    simp only [touch] at hh
    simp only [opD, touch]
    rw [hx] at hh ⊢
    rw [hy]
    have hl : ∀ o, Still (fun h => lookR n h t z ok (ev e' i) o) := by
      intro o
      cases o with
      | map es =>
        show Still (fun h => lookF n h z ok (findK t (ev e' i) es))
        cases findK t (ev e' i) es <;> first | exact Still.ok _ _ | exact Still.bad
      | _ => exact Still.bad
    cases hv : ev e' m with
    | mp q =>
      rw [hv] at hh
      show Fr [q] h h' (lookR n h t z ok (ev e' i) (getO h q)) (lookR n h' t z ok (ev e' i) (getO h' q))
      rw [← hh q (by simp [refO])]
      exact Fr.still (hl _) hh
    | nilm => exact Fr.still (hl (.map [])) (by intro q hq; cases hq)
    | _ => exact Fr.bad
  | mupd t m k x =>
    have hx := ev_eq (l he)
    simp only [touch] at hh
    simp only [opD, touch]
    rw [hx] at hh ⊢
    rw [ev_eq (l (r he)), ev_eq (r (r he))]
    cases hv : ev e' m with
    | mp q =>
      rw [hv] at hh
      show Fr [q] h h' (mupdR n h t q (ev e' k) (ev e' x) (getO h q)) (mupdR n h' t q (ev e' k) (ev e' x) (getO h' q))
      rw [← hh q (by simp [refO])]
      cases hg : getO h q with
      | map es =>
        show Fr [q] h h' (mupdF n h q (putK t (ev e' k) (ev e' x) es) (findK t (ev e' k) es)) (mupdF n h' q (putK t (ev e' k) (ev e' x) es) (findK t (ev e' k) es))
        cases findK t (ev e' k) es <;> first | exact Fr.bad | exact Fr.set (by simp) hh (by rw [hg]; exact fun h => by cases h)
      | _ => exact Fr.bad
    | _ => exact Fr.bad
  | len t x =>
    have hx := ev_eq he
    simp only [touch] at hh
    simp only [opD, touch]
    rw [hx] at hh ⊢
    cases t with
    | str => refine Fr.still (F := fun h => lenS n h _) ?_ hh; cases ev e' x <;> first | exact Still.ok _ _ | exact Still.bad
    | slice => refine Fr.still (F := fun h => lenC n h _) ?_ hh; cases ev e' x <;> first | exact Still.ok _ _ | exact Still.bad
    | map =>
      cases hv : ev e' x with
      | mp q =>
        rw [hv] at hh
        show Fr [q] h h' (lenM n h (getO h q)) (lenM n h' (getO h' q))
        rw [← hh q (by simp [refO])]
        refine Fr.still (F := fun h1 => lenM n h1 (getO h q)) ?_ hh
        cases getO h q <;> first | exact Still.ok _ _ | exact Still.bad
      | nilm => exact Fr.still (F := fun h => .ok _ _ h) (Still.ok _ _) (by intro q hq; cases hq)
      | _ => exact Fr.bad
    | _ => exact Fr.bad
  | app k b s x =>
    have hx := ev_eq (l he)
    have hy := ev_eq (r he)
    simp only [touch] at hh
    simp only [opD, touch]
    rw [hx, hy] at hh ⊢
    have hv : view k h (ev e' x) = view k h' (ev e' x) := view_same (fun q hq => hh q (by rw [appN_eq]; simp [hq]))
    rw [← hv]
    cases view k h (ev e' x) with
    | bad => exact Fr.bad
    | ok k' xs =>
      refine Fr.ifR (fun _ => ?_)
      have h1 : ∀ xs, Fr (n :: appN (refO (ev e' s)) (refO (ev e' x))) h h' (appN1 n h k b xs) (appN1 n h' k b xs) := fun xs => Fr.ifR (fun _ => Fr.cons (by simp) hh)
      cases xs with
      | nil =>
        refine Fr.still (F := fun h => appW n h k b (ev e' s) []) ?_ hh
        cases ev e' s <;> first | exact Still.ok _ _ | exact Still.bad
      | cons x0 xt =>
        show Fr _ h h' (appV n h k b (x0 :: xt) (ev e' s)) (appV n h' k b (x0 :: xt) (ev e' s))
        cases hs : ev e' s with
        | nils => rw [hs] at h1; exact h1 _
        | sl k' es sp full => rw [hs] at h1; exact Fr.ifR (fun _ => h1 _)
        | ms k' q off len full =>
          rw [hs] at h1 hh
          refine Fr.ifR (fun _ => ?_)
          have hq : q ∈ n :: appN (refO (.ms k' q off len full)) (refO (ev e' x)) := by rw [appN_eq]; simp [refO]
          rw [← hh q hq]
          cases hg : getO h q with
          | row kk es => exact Fr.brec (fun _ => Fr.ifR (fun _ => Fr.ifR (fun _ => Fr.consDel (by simp) hq hh))) (fun _ => Fr.ifR (fun _ => h1 _))
          | _ => exact Fr.bad
        | _ => exact Fr.bad
  | max x y =>
    simp only [opD]
    rw [ev_eq (l he), ev_eq (r he)]
    refine Fr.still (F := fun h => maxD n h _ _) ?_ hh
    cases ev e' x <;> first | exact Still.bad | (cases ev e' y <;> first | exact Still.ok _ _ | exact Still.bad)
  | min x y =>
    simp only [opD]
    rw [ev_eq (l he), ev_eq (r he)]
    refine Fr.still (F := fun h => minD n h _ _) ?_ hh
    cases ev e' x <;> first | exact Still.bad | (cases ev e' y <;> first | exact Still.ok _ _ | exact Still.bad)
  | call => exact Fr.bad
  | bad => exact Fr.bad
end Go.Proofs.Ytdijijblccmfbaa
