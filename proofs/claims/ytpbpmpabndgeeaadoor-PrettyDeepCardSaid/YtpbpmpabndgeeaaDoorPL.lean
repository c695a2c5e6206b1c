/- A frame's end, whatever it keeps. -/
import Derived.Test.YtpbpmpabndgeeaaDoorPZ
set_option linter.unusedSimpArgs false
set_option linter.unusedVariables false
namespace Go.Proofs.YtpbpmpabndgeeaaDoor
open Go

theorem nall {P Q : D → Bool} (ih : ∀ d,P d = false → Q d = false) : ∀ cs : List D,Bool.not (allL (fun d => Bool.not (P d)) cs) = false → Bool.not (allL (fun d => Bool.not (Q d)) cs) = false := by
  intro cs
  rw [allL_eq,allL_eq]
  induction cs with
  | nil => exact fun h => h
  | cons a t iht =>
    rw [List.all_cons,List.all_cons]
    intro h
    cases ha : P a with
    | true => rw [ha] at h; simp at h
    | false =>
      rw [ha] at h
      rw [ih a ha]
      simp only [Bool.not_false,Bool.true_and] at h ⊢
      exact iht h
theorem ble_up {n k r : Nat} (h : n ≤ k) (e : Nat.ble n r = false) : Nat.ble k r = false := by
  rw [ble_iff] at e ⊢
  have := of_decide_eq_false e
  exact decide_eq_false (by omega)
theorem hasR_mono {n k : Nat} (h : n ≤ k) : ∀ f d,hasR n f d = false → hasR k f d = false
  | 0,_,e => by cases e
  | f + 1,d,e => by
    have ih := hasR_mono h f
    cases d with
    | ptr r i j => exact ble_up h e
    | ms q r o l b => exact ble_up h e
    | mp r => exact ble_up h e
    | yld r => exact ble_up h e
    | iface t d => exact ih d e
    | agg cs => exact nall ih cs e
    | tup cs => exact nall ih cs e
    | fn g a c =>
      replace e : Bool.not (Bool.and (allL (fun d => Bool.not (hasR n f d)) a) (allL (fun d => Bool.not (hasR n f d)) c)) = false := e
      show Bool.not (Bool.and (allL (fun d => Bool.not (hasR k f d)) a) (allL (fun d => Bool.not (hasR k f d)) c)) = false
      have e1 := nall ih a
      have e2 := nall ih c
      cases ha : allL (fun d => Bool.not (hasR n f d)) a <;> cases hc : allL (fun d => Bool.not (hasR n f d)) c <;> rw [ha,hc] at e <;> first | (cases e; done) | skip
      rw [ha] at e1; rw [hc] at e2
      have e1 := e1 rfl
      have e2 := e2 rfl
      revert e1 e2
      cases allL (fun d => Bool.not (hasR k f d)) a <;> cases allL (fun d => Bool.not (hasR k f d)) c <;> intro e1 e2 <;> first | rfl | (cases e1; done) | (cases e2; done)
    | _ => rfl
theorem lowO_mono {n k : Nat} (h : n ≤ k) {o : Ob} (e : lowO n o) : lowO k o := by
  unfold lowO at e ⊢
  cases o with
  | row q es => exact nall (hasR_mono h 20) es e
  | byt es => exact nall (hasR_mono h 20) es e
  | tob t x => exact hasR_mono h 20 x e
  | mit q => exact ble_up h e
  | none => rfl
  | map es =>
    revert e
    induction es with
    | nil => exact fun e => e
    | cons p t ih =>
      intro e
      replace e : Bool.or (hasR n 20 p.1) (Bool.or (hasR n 20 p.2) (obR1 n (.map t))) = false := e
      show Bool.or (hasR k 20 p.1) (Bool.or (hasR k 20 p.2) (obR1 k (.map t))) = false
      rw [Bool.or_eq_false_iff] at e
      have e2 := e.2
      rw [Bool.or_eq_false_iff] at e2
      rw [hasR_mono h 20 _ e.1,hasR_mono h 20 _ e2.1,ih e2.2]; rfl
  | loop q a b c d e1 =>
    replace e : Nat.blt n q = false := e
    show Nat.blt k q = false
    rw [blt_iff] at e ⊢
    have := of_decide_eq_false e
    exact decide_eq_false (by omega)
theorem dropFrom_mem {n : Nat} : ∀ {h : Hps} {p},p ∈ dropFrom n h → p ∈ h ∧ p.1 < n
  | [],_,hp => by cases hp
  | (q,o) :: t,p,hp => by
    by_cases hq : q < n
    · rw [drop_old hq] at hp
      rcases List.mem_cons.1 hp with rfl | hp
      · exact ⟨by simp,hq⟩
      · have := dropFrom_mem hp; exact ⟨by simp [this.1],this.2⟩
    · rw [drop_new (by omega)] at hp
      have := dropFrom_mem hp; exact ⟨by simp [this.1],this.2⟩
theorem dropFrom_get {n x : Nat} (hx : x < n) : ∀ {h : Hps},getO (dropFrom n h) x = getO h x
  | [] => rfl
  | (q,o) :: t => by
    by_cases hq : q < n
    · rw [drop_old hq]
      by_cases e : q = x
      · subst e; rw [getO_hd,getO_hd]
      · rw [getO_tl e,getO_tl e]; exact dropFrom_get hx
    · rw [drop_new (by omega),getO_tl (by omega)]; exact dropFrom_get hx
theorem fin_any {n m : Nat} {h : Hps} {d : D} (hnm : n ≤ m) (hg : Gd m h) : ∃ d' n' h',(d' = d ∨ (d' = frz h n 60 d ∧ hasJ 20 d' = false)) ∧ finishD n m h d = .ok d' n' h' ∧ n ≤ n' ∧ Gd n' h' ∧ ∀ x,x < n → getO h' x = getO h x := by
  cases hb : Bool.or (hasP n 20 d) (leak n h) with
  | true => exact ⟨d,m,h,.inl rfl,by unfold finishD; rw [hb],hnm,hg,fun _ _ => rfl⟩
  | false =>
    cases hc : Bool.or (hasJ 20 (frz h n 60 d)) (hasR n 20 (frz h n 60 d)) with
    | true => exact ⟨d,m,h,.inl rfl,by unfold finishD; rw [hb]; show finishF n m h d (frz h n 60 d) = _; unfold finishF; rw [hc],hnm,hg,fun _ _ => rfl⟩
    | false =>
      refine ⟨frz h n 60 d,n,dropFrom n h,.inr ⟨rfl,(Bool.or_eq_false_iff.1 hc).1⟩,by unfold finishD; rw [hb]; show finishF n m h d (frz h n 60 d) = _; unfold finishF; rw [hc],Nat.le_refl _,fun k hk p hp => ?_,fun x hx => dropFrom_get hx⟩
      obtain ⟨h1,h2⟩ := dropFrom_mem hp
      rw [Bool.or_eq_false_iff] at hb
      exact ⟨by omega,lowO_mono hk (leak_iff.1 hb.2 p h1 h2)⟩
end Go.Proofs.YtpbpmpabndgeeaaDoor
