/- What a function keeps of the heap; slices put together by appending; what is handed back, frozen. No condition. -/
import Derived.Test.YtdijijblccmfbaaA34
set_option linter.unusedSimpArgs false
set_option linter.unusedVariables false
namespace Go.Proofs.Ytdijijblccmfbaa
open Go

/-- the heap h, numbers used below n, in a function that began at number n0 with the heap h0: what was there is there, nothing of it leads to anything new -/
structure Hp (n0 : Nat) (h0 : Hps) (n : Nat) (h : Hps) : Prop where
  le : n0 ≤ n
  good : ∀ k, n ≤ k → GoodAt k h
  drop : dropFrom n0 h = h0
  leak : Go.Proofs.Ytdijijblccmfbaa.leak n0 h = false

section
variable {n0 n : Nat} {h0 h : Hps} {α : Type} {enc : α → D} {k : Nat}

theorem Hp.start (hg : ∀ k, n0 ≤ k → GoodAt k h0) : Hp n0 h0 n0 h0 := ⟨Nat.le_refl _, hg, good_drop (hg n0 (Nat.le_refl _)), good_leak (hg n0 (Nat.le_refl _))⟩
theorem Hp.mono {m : Nat} (H : Hp n0 h0 n h) (hm : n ≤ m) : Hp n0 h0 m h := ⟨Nat.le_trans H.le hm, fun k hk => H.good k (Nat.le_trans hm hk), H.drop, H.leak⟩
theorem Hp.cons {m r : Nat} {o : Ob} (H : Hp n0 h0 n h) (hr : n ≤ r) (hm : r < m) (ho : ∀ k, m ≤ k → lowO k o) : Hp n0 h0 m ((r, o) :: h) := by
  have := H.le
  refine ⟨by omega, fun k hk => good_cons.2 ⟨by omega, ho k hk, H.good k (by omega)⟩, ?_, ?_⟩
  · rw [drop_new (by omega)]; exact H.drop
  · rw [leak_new (by omega)]; exact H.leak
theorem good_del {m r : Nat} (hg : GoodAt m h) : GoodAt m (delO h r) := by
  induction h with
  | nil => exact hg
  | cons p t ih =>
    obtain ⟨q, o⟩ := p
    obtain ⟨h1, h2, h3⟩ := good_cons.1 hg
    show GoodAt m (Bool.rec (motive := fun _ => Hps) ((q, o) :: delO t r) (delO t r) (Nat.beq q r))
    cases Nat.beq q r with
    | true => exact ih h3
    | false => exact good_cons.2 ⟨h1, h2, ih h3⟩
theorem good_set {m r : Nat} {x : Ob} (hg : GoodAt m h) (hx : lowO m x) : GoodAt m (setO h r x) := by
  induction h with
  | nil => exact hg
  | cons p t ih =>
    obtain ⟨q, o⟩ := p
    obtain ⟨h1, h2, h3⟩ := good_cons.1 hg
    show GoodAt m (Bool.rec (motive := fun _ => Hps) ((q, o) :: setO t r x) ((q, x) :: t) (Nat.beq q r))
    cases Nat.beq q r with
    | true => exact good_cons.2 ⟨h1, hx, h3⟩
    | false => exact good_cons.2 ⟨h1, h2, ih h3⟩
theorem leak_old {q : Nat} {o : Ob} (hq : q < n0) : leak n0 ((q, o) :: h) = Bool.or (obR1 n0 o) (leak n0 h) := by
  show Bool.rec (motive := fun _ => Bool) (leak n0 h) (Bool.or (obR1 n0 o) (leak n0 h)) (Nat.blt q n0) = _
  rw [blt_iff, decide_eq_true hq]
theorem drop_old {q : Nat} {o : Ob} (hq : q < n0) : dropFrom n0 ((q, o) :: h) = (q, o) :: dropFrom n0 h := by
  show Bool.rec (motive := fun _ => Hps) (dropFrom n0 h) ((q, o) :: dropFrom n0 h) (Nat.blt q n0) = _
  rw [blt_iff, decide_eq_true hq]
theorem del_same {r : Nat} (hr : n0 ≤ r) : dropFrom n0 (delO h r) = dropFrom n0 h ∧ leak n0 (delO h r) = leak n0 h := by
  induction h with
  | nil => exact ⟨rfl, rfl⟩
  | cons p t ih =>
    obtain ⟨q, o⟩ := p
    by_cases e : q = r
    · subst e
      rw [delO_hd, drop_new hr, leak_new hr]; exact ih
    · rw [delO_tl e]
      by_cases hq : q < n0
      · rw [drop_old hq, drop_old hq, leak_old hq, leak_old hq, ih.1, ih.2]; exact ⟨rfl, rfl⟩
      · rw [drop_new (by omega), drop_new (by omega), leak_new (by omega), leak_new (by omega)]; exact ih
theorem set_same {r : Nat} {x : Ob} (hr : n0 ≤ r) : dropFrom n0 (setO h r x) = dropFrom n0 h ∧ leak n0 (setO h r x) = leak n0 h := by
  induction h with
  | nil => exact ⟨rfl, rfl⟩
  | cons p t ih =>
    obtain ⟨q, o⟩ := p
    by_cases e : q = r
    · subst e
      rw [setO_hd, drop_new hr, leak_new hr, drop_new hr, leak_new hr]; exact ⟨rfl, rfl⟩
    · rw [setO_tl e]
      by_cases hq : q < n0
      · rw [drop_old hq, drop_old hq, leak_old hq, leak_old hq, ih.1, ih.2]; exact ⟨rfl, rfl⟩
      · rw [drop_new (by omega), drop_new (by omega), leak_new (by omega), leak_new (by omega)]; exact ih
theorem Hp.del {r : Nat} (H : Hp n0 h0 n h) (hr : n0 ≤ r) : Hp n0 h0 n (delO h r) :=
  ⟨H.le, fun k hk => good_del (H.good k hk), (del_same hr).1.trans H.drop, (del_same hr).2.trans H.leak⟩
theorem Hp.set {r : Nat} {x : Ob} (H : Hp n0 h0 n h) (hr : n0 ≤ r) (hx : ∀ k, n ≤ k → lowO k x) : Hp n0 h0 n (setO h r x) :=
  ⟨H.le, fun k hk => good_set (H.good k hk) (hx k hk), (set_same hr).1.trans H.drop, (set_same hr).2.trans H.leak⟩
theorem getO_low {r : Nat} (hg : GoodAt n h) (hr : getO h r ≠ .none) : r < n := by
  induction h with
  | nil => exact absurd rfl hr
  | cons p t ih =>
    obtain ⟨q, o⟩ := p
    obtain ⟨h1, h2, h3⟩ := good_cons.1 hg
    rw [getO_cons] at hr
    by_cases e : q = r
    · omega
    · rw [if_neg e] at hr; exact ih h3 hr

/-! appending -/
theorem appD_nils {b q : Nat} {x : D} {xt : List D} (hs : (xt.length + 1) * b ≤ 140737488355328) : appD n h q b .nils (.ok q (x :: xt)) = .ok (.ms q n 0 (xt.length + 1) false) n ((n, .row q (x :: xt)) :: h) := by
  show ifR (Nat.beq q q) (ifR (Nat.ble (lenL (x :: xt) * b) most) (.ok (.ms q n 0 (lenL (x :: xt)) false) n ((n, .row q (x :: xt)) :: h))) = _
  rw [Nat.beq_refl, ifR_true, lenL_eq, List.length_cons, ble_iff]
  unfold most
  rw [decide_eq_true hs]; rfl
theorem appD_ms {b q r m : Nat} {es xs : List D} {x : D} {xt : List D} (hxs : xs = x :: xt) (hg : getO h r = .row q es) (hm : m = es.length) (hs : (es.length + xs.length) * b ≤ 140737488355328) :
    appD n h q b (.ms q r 0 m false) (.ok q xs) = .ok (.ms q n 0 (es.length + xs.length) false) n ((n, .row q (es ++ xs)) :: delO h r) := by
  subst hxs
  subst hm
  show ifR (Nat.beq q q) (ifR (Nat.beq q q) (appR n h q b r 0 es.length false (x :: xt) (getO h r))) = _
  rw [Nat.beq_refl, ifR_true, ifR_true, hg]
  show ifR (Bool.and (Nat.beq 0 0) (Nat.beq es.length (lenL es))) (ifR (Nat.ble ((lenL es + lenL (x :: xt)) * b) most) (.ok (.ms q n 0 (lenL es + lenL (x :: xt)) false) n ((n, .row q (appL es (x :: xt))) :: delO h r))) = _
  rw [lenL_eq, lenL_eq, Nat.beq_refl, Nat.beq_refl, ble_iff, appL_eq]
  unfold most
  rw [decide_eq_true hs]; rfl
theorem view_sl {q p : Nat} {es sp : List D} {f : Bool} : view q h (.sl p es sp f) = .ok p es := eqOf rfl
theorem view_nils {q : Nat} : view q h .nils = .ok q [] := eqOf rfl
theorem view_slD {s : Sl α} : view k h (slD k enc s) = .ok k (s.el.map enc) := by
  rcases slD_isSl k enc s with ⟨h1, h2⟩ | ⟨_, _, h1⟩
  · rw [h1, h2]; rfl
  · rw [h1]; rfl
/-- a slice that is being put together -/
def Bld (k : Nat) (enc : α → D) (n0 : Nat) (l : List α) (h : Hps) (d : D) : Prop := (l = [] ∧ d = .nils) ∨ ∃ r, l ≠ [] ∧ n0 ≤ r ∧ d = .ms k r 0 l.length false ∧ getO h r = .row k (l.map enc)
theorem bsl_one {q : Nat} {d : D} (hd : okE q d = true) : bslD n h q [d] = .ok (.sl q [d] [] true) n h := by
  show Bool.rec (motive := fun _ => Rd) (ifR (allL (okF q) [d]) (.ok (.ms q n 0 (lenL [d]) true) n ((n, .row q [d]) :: h))) (.ok (.sl q [d] [] true) n h) (allL (okE q) [d]) = _
  have : allL (okE q) [d] = true := by rw [allL_eq]; simp [hd]
  rw [this]

/-! what is handed back -/
structure Fz (c n0 : Nat) (h : Hps) (d d' : D) : Prop where
  frz : ∀ f, c ≤ f → Go.Proofs.Ytdijijblccmfbaa.frz h n0 f d = d'
  hasP : ∀ f, c ≤ f → Go.Proofs.Ytdijijblccmfbaa.hasP n0 f d = false
  hasR : ∀ f, c ≤ f → Go.Proofs.Ytdijijblccmfbaa.hasR n0 f d' = false
  hasJ : ∀ f, c ≤ f → Go.Proofs.Ytdijijblccmfbaa.hasJ f d' = false
theorem Fz.mono {c c' : Nat} {d d' : D} (H : Fz c n0 h d d') (hc : c ≤ c') : Fz c' n0 h d d' :=
  ⟨fun f hf => H.frz f (Nat.le_trans hc hf), fun f hf => H.hasP f (Nat.le_trans hc hf), fun f hf => H.hasR f (Nat.le_trans hc hf), fun f hf => H.hasJ f (Nat.le_trans hc hf)⟩
theorem Fz.of1 {d : D} (hd : flat1 d = true) : Fz 1 n0 h d d := by
  have key : ∀ f, 1 ≤ f → ∃ g, f = g + 1 := fun f hf => ⟨f - 1, by omega⟩
  refine ⟨fun f hf => ?_, fun f hf => ?_, fun f hf => ?_, fun f hf => ?_⟩ <;> obtain ⟨g, rfl⟩ := key f hf
  · exact (plain1 g hd).frz h n0
  · exact (plain1 g hd).hasP n0
  · exact (plain1 g hd).hasR n0
  · exact (plain1 g hd).hasJ
theorem Fz.of2 {d : D} (hd : flat2 d = true) : Fz 2 n0 h d d := by
  have key : ∀ f, 2 ≤ f → ∃ g, f = g + 2 := fun f hf => ⟨f - 2, by omega⟩
  refine ⟨fun f hf => ?_, fun f hf => ?_, fun f hf => ?_, fun f hf => ?_⟩ <;> obtain ⟨g, rfl⟩ := key f hf
  · exact (plain2 g hd).frz h n0
  · exact (plain2 g hd).hasP n0
  · exact (plain2 g hd).hasR n0
  · exact (plain2 g hd).hasJ
inductive FzL (c n0 : Nat) (h : Hps) : List D → List D → Prop where
  | nil : FzL c n0 h [] []
  | cons {d d' : D} {l l' : List D} : Fz c n0 h d d' → FzL c n0 h l l' → FzL c n0 h (d :: l) (d' :: l')
theorem FzL.list {c : Nat} {l l' : List D} (H : FzL c n0 h l l') (f : Nat) (hf : c ≤ f) : mapL (Go.Proofs.Ytdijijblccmfbaa.frz h n0 f) l = l' ∧ Bool.not (allL (fun d => Bool.not (Go.Proofs.Ytdijijblccmfbaa.hasP n0 f d)) l) = false ∧
    Bool.not (allL (fun d => Bool.not (Go.Proofs.Ytdijijblccmfbaa.hasR n0 f d)) l') = false ∧ Bool.not (allL (fun d => Bool.not (Go.Proofs.Ytdijijblccmfbaa.hasJ f d)) l') = false := by
  rw [mapL_eq, allL_eq, allL_eq, allL_eq]
  induction H with
  | nil => exact ⟨rfl, rfl, rfl, rfl⟩
  | cons h1 _ ih =>
    obtain ⟨i1, i2, i3, i4⟩ := ih
    refine ⟨by rw [List.map_cons, i1, h1.frz f hf], ?_, ?_, ?_⟩
    · rw [List.all_cons, h1.hasP f hf]; exact i2
    · rw [List.all_cons, h1.hasR f hf]; exact i3
    · rw [List.all_cons, h1.hasJ f hf]; exact i4
theorem Fz.agg {c : Nat} {l l' : List D} (H : FzL c n0 h l l') : Fz (c + 1) n0 h (.agg l) (.agg l') := by
  have key : ∀ f, c + 1 ≤ f → ∃ g, f = g + 1 ∧ c ≤ g := fun f hf => ⟨f - 1, by omega, by omega⟩
  refine ⟨fun f hf => ?_, fun f hf => ?_, fun f hf => ?_, fun f hf => ?_⟩ <;> obtain ⟨g, rfl, hg⟩ := key f hf
  · exact congrArg D.agg (H.list g hg).1
  · exact (H.list g hg).2.1
  · exact (H.list g hg).2.2.1
  · exact (H.list g hg).2.2.2
theorem Fz.tup {c : Nat} {l l' : List D} (H : FzL c n0 h l l') : Fz (c + 1) n0 h (.tup l) (.tup l') := by
  have key : ∀ f, c + 1 ≤ f → ∃ g, f = g + 1 ∧ c ≤ g := fun f hf => ⟨f - 1, by omega, by omega⟩
  refine ⟨fun f hf => ?_, fun f hf => ?_, fun f hf => ?_, fun f hf => ?_⟩ <;> obtain ⟨g, rfl, hg⟩ := key f hf
  · exact congrArg D.tup (H.list g hg).1
  · exact (H.list g hg).2.1
  · exact (H.list g hg).2.2.1
  · exact (H.list g hg).2.2.2
/-- an element that may lie in a slice that is data: k cells, each of them data -/
structure ElemOk (k : Nat) (enc : α → D) : Prop where
  flat : ∀ x, flat2 (enc x) = true
  ok : ∀ x, okE k (enc x) = true
theorem spareK_nil {k : Nat} {full : Bool} : spareK k [] full = [] := by
  unfold spareK
  cases full with
  | true => rfl
  | false => cases Bool.and (Nat.blt 0 k) (allL (okE k) []) <;> rfl
theorem Fz.ms {r : Nat} {l : List α} {full : Bool} (he : ElemOk k enc) (hr : n0 ≤ r) (hg : getO h r = .row k (l.map enc)) : Fz 3 n0 h (.ms k r 0 l.length full) (.sl k (l.map enc) [] full) := by
  have key : ∀ f, 3 ≤ f → ∃ g, f = g + 3 := fun f hf => ⟨f - 3, by omega⟩
  refine ⟨fun f hf => ?_, fun f hf => ?_, fun f hf => ?_, fun f hf => ?_⟩ <;> obtain ⟨g, rfl⟩ := key f hf
  · show Bool.rec (motive := fun _ => D) (frzO (Go.Proofs.Ytdijijblccmfbaa.frz h n0 (g + 2)) k 0 l.length full (getO h r)) (.ms k r 0 l.length full) (Nat.blt r n0) = _
    rw [blt_iff, decide_eq_false (by omega), hg]
    show Bool.rec (motive := fun _ => D) .junk (frzS k (mapL (Go.Proofs.Ytdijijblccmfbaa.frz h n0 (g + 2)) (takeL l.length (dropL 0 (l.map enc)))) (dropL (0 + l.length) (l.map enc)) full) (Bool.and (Nat.beq k k) (Nat.ble (0 + l.length) (lenL (l.map enc)))) = _
    rw [Nat.beq_refl, lenL_eq, List.length_map, Nat.zero_add, ble_iff, decide_eq_true (Nat.le_refl _), takeL_eq, dropL_eq, dropL_eq, List.drop_zero, List.take_of_length_le (by simp), mapL_eq]
    have h1 : (l.map enc).map (Go.Proofs.Ytdijijblccmfbaa.frz h n0 (g + 2)) = l.map enc := by
      rw [List.map_map]
      exact List.map_congr_left (fun x _ => (plain2 g (he.flat x)).frz h n0)
    rw [h1]
    rw [List.drop_of_length_le (show (l.map enc).length ≤ l.length by rw [List.length_map]; exact Nat.le_refl _)]
    show frzS k (l.map enc) [] full = _
    unfold frzS
    rw [spareK_nil]
    have h2 : allL (okE k) (l.map enc) = true := by
      rw [allL_eq, List.all_eq_true]
      intro d hd
      obtain ⟨x, _, rfl⟩ := List.mem_map.1 hd
      exact he.ok x
    rw [h2]
  · rfl
  · rfl
  · rfl
theorem Fz.bld {l : List α} {d : D} (he : ElemOk k enc) (hB : Bld k enc n0 l h d) : Fz 3 n0 h d (slD k enc (Sl.app l)) := by
  rcases hB with ⟨rfl, rfl⟩ | ⟨r, hne, hr, rfl, hg⟩
  · exact (Fz.of1 rfl).mono (by omega)
  · cases l with
    | nil => exact absurd rfl hne
    | cons x t => exact Fz.ms he hr hg
theorem finishD_fz {c : Nat} {d d' : D} (H : Fz c n0 h d d') (hc : c ≤ 20) (hl : leak n0 h = false) : finishD n0 n h d = .ok d' n0 (dropFrom n0 h) := by
  unfold finishD
  rw [H.hasP 20 hc, hl, H.frz 60 (by omega)]
  show finishF n0 n h d d' = _
  unfold finishF
  rw [H.hasJ 20 hc, H.hasR 20 hc]
  rfl
end
end Go.Proofs.Ytdijijblccmfbaa
