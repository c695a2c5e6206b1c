/- Heaps in which some boxes have changed: for calls that reach several boxes. No condition. -/
import Derived.Test.YtdijijblccmfbaaTM
set_option linter.unusedSimpArgs false
set_option linter.unusedVariables false
namespace Go.Proofs.Ytdijijblccmfbaa
open Go

def Boxed (o : Ob) : Prop := ∃ k d,o = .row k [d] ∧ flat d = true ∧ ∀ p,inD p 20 d = true
theorem Boxed.low {o : Ob} (b : Boxed o) (m : Nat) : lowO m o := by obtain ⟨k,d,rfl,hf,_⟩ := b; exact lowO_one (low_flat hf)
theorem Boxed.inO {o : Ob} (b : Boxed o) (p : Nat → Bool) : Ytdijijblccmfbaa.inO p o = true := by
  obtain ⟨k,d,rfl,_,hi⟩ := b
  show allL (inD p 20) [d] = true
  rw [allL_eq,List.all_cons,List.all_nil,hi]; rfl
theorem boxI {x : Int} : Boxed (.row 1 [.int .i64 x]) := ⟨_,_,rfl,rfl,fun _ => rfl⟩
theorem boxSl {α : Type} {k : Nat} {enc : α → D} {s : Sl α} : Boxed (.row 1 [slD k enc s]) := ⟨_,_,rfl,flat_slD,fun p => by rcases slD_isSl k enc s with ⟨h1,_⟩ | ⟨_,_,h1⟩ <;> rw [h1] <;> rfl⟩

theorem delO_filter {r : Nat} : ∀ h : Hps,delO h r = h.filter fun p => decide (p.1 ≠ r)
  | [] => rfl
  | (q,o) :: t => by
    by_cases e : q = r
    · subst e; rw [delO_hd,delO_filter t,List.filter_cons_of_neg (by simp)]
    · rw [delO_tl e,delO_filter t,List.filter_cons_of_pos (by simpa using e)]
theorem remH_filter : ∀ (S : List Nat) (h : Hps),remH S h = h.filter fun p => decide (p.1 ∉ S)
  | [],h => by
    show h = _
    rw [List.filter_eq_self.2]
    intro p _; simp
  | a :: S,h => by
    show delO (remH S h) a = _
    rw [delO_filter,remH_filter S h,List.filter_filter]
    congr 1
    funext p
    simp only [List.mem_cons,not_or,ne_eq,Bool.decide_and]
theorem drop_filter {n : Nat} : ∀ h : Hps,dropFrom n h = h.filter fun p => decide (p.1 < n)
  | [] => rfl
  | (q,o) :: t => by
    by_cases e : q < n
    · rw [drop_old e,drop_filter t,List.filter_cons_of_pos (by simpa using e)]
    · rw [drop_new (by omega),drop_filter t,List.filter_cons_of_neg (by simpa using e)]
theorem remH_set {S : List Nat} {r : Nat} {x : Ob} (hr : r ∈ S) : ∀ h : Hps,remH S (setO h r x) = remH S h
  | [] => rfl
  | (q,o) :: t => by
    have ih := remH_set (x := x) hr t
    rw [remH_filter,remH_filter] at ih ⊢
    by_cases e : q = r
    · subst e
      rw [setO_hd,List.filter_cons_of_neg (by simpa using hr),List.filter_cons_of_neg (by simpa using hr)]
    · rw [setO_tl e]
      by_cases e2 : q ∈ S
      · rw [List.filter_cons_of_neg (by simpa using e2),List.filter_cons_of_neg (by simpa using e2),ih]
      · rw [List.filter_cons_of_pos (by simpa using e2),List.filter_cons_of_pos (by simpa using e2),ih]
theorem drop_remH {S : List Nat} {n : Nat} (h : Hps) : dropFrom n (remH S h) = remH S (dropFrom n h) := by
  rw [drop_filter,drop_filter,remH_filter,remH_filter,List.filter_filter,List.filter_filter]
  congr 1
  funext p
  rw [Bool.and_comm]
theorem remH_above {S : List Nat} {n : Nat} (hS : ∀ r,r ∈ S → n ≤ r) (h : Hps) : remH S (dropFrom n h) = dropFrom n h := by
  rw [remH_filter,List.filter_eq_self.2]
  intro p hp
  have := (mem_drop.1 hp).2
  simp only [decide_eq_true_eq]
  intro hs
  have := hS _ hs
  omega
theorem mem_remH {S : List Nat} {h : Hps} {p : Nat × Ob} (hp : p ∈ remH S h) : p ∈ h ∧ p.1 ∉ S := by
  rw [remH_filter] at hp
  obtain ⟨h1,h2⟩ := List.mem_filter.1 hp
  exact ⟨h1,of_decide_eq_true h2⟩

def Upd (S : List Nat) (h h' : Hps) : Prop := (∀ p,p ∈ h' → (p.1 ∈ S ∧ Boxed p.2) ∨ p ∈ h) ∧ (∀ q,q ∉ S → getO h' q = getO h q) ∧ remH S h' = remH S h
theorem Upd.refl {S : List Nat} {h : Hps} : Upd S h h := ⟨fun _ hp => .inr hp,fun _ _ => rfl,rfl⟩
theorem Upd.trans {S : List Nat} {h h1 h2 : Hps} (a : Upd S h h1) (b : Upd S h1 h2) : Upd S h h2 :=
  ⟨fun p hp => (b.1 p hp).elim .inl (a.1 p),fun q hq => (b.2.1 q hq).trans (a.2.1 q hq),b.2.2.trans a.2.2⟩
theorem Upd.set {S : List Nat} {h : Hps} {r : Nat} {o : Ob} (hr : r ∈ S) (hb : getO h r ≠ .none) (ho : Boxed o) : Upd S h (setO h r o) :=
  ⟨fun p hp => (mem_setO hp).imp (fun e => by rw [e]; exact ⟨hr,ho⟩) id,fun q hq => by rw [getO_setO _ _ _ _ hb,if_neg (fun e => hq (by rw [e]; exact hr))],remH_set hr h⟩
theorem Upd.gd {S : List Nat} {h h' : Hps} {n : Nat} (a : Upd S h h') (hS : ∀ r,r ∈ S → r < n) (hg : Gd n h) : Gd n h' := fun k hk p hp => by
  rcases a.1 p hp with ⟨h1,h2⟩ | hp
  · exact ⟨by have := hS _ h1; omega,h2.low k⟩
  · exact hg k hk p hp
theorem Upd.hp {S : List Nat} {n m : Nat} {hb g g1 : Hps} (H : Hp n hb m g) (U : Upd S g g1) (hS : ∀ r,r ∈ S → r < n) : ∃ hb1,Hp n hb1 m g1 ∧ Upd S hb hb1 ∧ ∀ r,r < n → getO hb1 r = getO g1 r := by
  have hle := H.le
  have hd := H.drop
  refine ⟨dropFrom n g1,⟨hle,fun k hk => U.gd (fun r hr => by have := hS r hr; omega) (fun j hj => H.good j hj) k hk,rfl,?_⟩,⟨?_,?_,?_⟩,fun r hr => by rw [getO_dropFrom,if_pos hr]⟩
  · rw [leak_iff]
    intro p hp hq
    rcases U.1 p hp with ⟨_,h2⟩ | hp
    · exact h2.low n
    · exact leak_iff.1 H.leak p hp hq
  · intro p hp
    obtain ⟨h1,h2⟩ := mem_drop.1 hp
    rcases U.1 p h1 with h | h
    · exact .inl h
    · right; rw [← hd]; exact mem_drop.2 ⟨h,h2⟩
  · intro q hq
    rw [← hd,getO_dropFrom,getO_dropFrom,U.2.1 q hq]
  · rw [← hd,← drop_remH,← drop_remH,U.2.2]
theorem Upd.own {S : List Nat} {n m : Nat} {hb g g1 : Hps} (H : Hp n hb m g) (U : Upd S g g1) (hS : ∀ r,r ∈ S → n ≤ r ∧ r < m) : Hp n hb m g1 := by
  have hle := H.le
  refine ⟨hle,fun k hk => U.gd (fun r hr => (hS r hr).2) (fun j hj => H.good j hj) k hk,?_,?_⟩
  · have e1 := remH_above (fun r hr => (hS r hr).1) g1
    have e2 := remH_above (fun r hr => (hS r hr).1) g
    rw [← e1,← drop_remH,U.2.2,drop_remH,e2,H.drop]
  · rw [leak_iff]
    intro p hp hq2
    rcases U.1 p hp with ⟨_,h2⟩ | hp
    · exact h2.low n
    · exact leak_iff.1 H.leak p hp hq2

theorem memN_mem {r : Nat} : ∀ {S : List Nat},r ∈ S → memN r S = true
  | a :: S,h => by
    rw [memN_cons]
    rcases List.mem_cons.1 h with rfl | h
    · rw [decide_eq_true rfl]; rfl
    · rw [memN_mem h,Bool.or_true]
theorem allN_of {p : Nat → Bool} : ∀ {S : List Nat},(∀ r,r ∈ S → p r = true) → allN p S = true
  | [],_ => rfl
  | a :: S,h => by
    show Bool.and (p a) (allN p S) = true
    rw [h a (by simp),allN_of (fun r hr => h r (by simp [hr]))]; rfl
theorem mem_subH {h : Hps} {p : Nat × Ob} : ∀ {S : List Nat},p ∈ subH S h → p.1 ∈ S ∧ p.2 = getO h p.1
  | a :: S,hp => by
    have hp : p ∈ (a,getO h a) :: subH S h := hp
    rcases List.mem_cons.1 hp with rfl | hp
    · exact ⟨by simp,rfl⟩
    · exact ⟨by simp [(mem_subH hp).1],(mem_subH hp).2⟩
theorem sub_upd {call : CallF} {S : List Nat} {m n1 : Nat} {h gg : Hps} {f d : D} {args : List D} (hle : ∀ r,r ∈ S → r ≤ m) (hbx : ∀ r,r ∈ S → Boxed (getO h r))
    (hf : inD (fun r => memN r S) 20 f = true) (ha : allL (inD (fun r => memN r S) 20) args = true) (hd : inD (ofR S (m + 1)) 20 d = true)
    (hcall : call (m + 1) (subH S h) f args = .ok d n1 gg) (U : Upd S (subH S h) gg) (hk : ∀ r,r ∈ S → getO gg r ≠ .none) :
    ∃ g1,subC call S m h f args = .ok d n1 g1 ∧ Upd S h g1 ∧ ∀ r,r ∈ S → getO g1 r = getO gg r := by
  have hgg : ∀ x,x ∈ gg → x.1 ∈ S ∧ Boxed x.2 := fun x hx => by
    rcases U.1 x hx with h1 | h1
    · exact h1
    · obtain ⟨h2,h3⟩ := mem_subH h1
      exact ⟨h2,by rw [h3]; exact hbx _ h2⟩
  refine ⟨appH gg (remH S h),?_,⟨?_,?_,?_⟩,?_⟩
  · show pureC S m h f args (call (m + 1) (subH S h) f args) = _
    rw [hcall]
    have f1 : allN (fun r => Nat.ble r m) S = true := allN_of fun r hr => by rw [ble_iff]; exact decide_eq_true (hle r hr)
    have f4 : inH (fun r => memN r S) (subH S h) = true := inH_all fun x hx => by
      obtain ⟨h2,h3⟩ := mem_subH hx
      exact ⟨memN_mem h2,by rw [h3]; exact (hbx _ h2).inO _⟩
    have f5 : inH (ofR S (m + 1)) gg = true := inH_all fun x hx => by
      obtain ⟨h2,h3⟩ := hgg x hx
      refine ⟨?_,h3.inO _⟩
      show Bool.or (Nat.ble (m + 1) x.1) (memN x.1 S) = true
      rw [memN_mem h2]; cases Nat.ble (m + 1) x.1 <;> rfl
    show ifR (Bool.and (allN (fun r => Nat.ble r m) S) (Bool.and (inD (fun r => memN r S) 20 f) (Bool.and (allL (inD (fun r => memN r S) 20) args) (Bool.and (inH (fun r => memN r S) (subH S h)) (Bool.and (inD (ofR S (m + 1)) 20 d) (inH (ofR S (m + 1)) gg)))))) (.ok _ _ _) = _
    rw [f1,hf,ha,f4,hd,f5]
    rfl
  · intro p hp
    rw [appH_eq] at hp
    rcases List.mem_append.1 hp with h1 | h1
    · exact .inl (hgg p h1)
    · exact .inr (mem_remH h1).1
  · intro q hq
    have hk : q ∉ gg.map (·.1) := by
      intro e
      obtain ⟨x,hx,e2⟩ := List.mem_map.1 e
      exact hq (by rw [← e2]; exact (hgg x hx).1)
    rw [((getO_app gg _ q).2 hk).1,getO_remH.2 hq]
  · rw [appH_eq,remH_filter,remH_filter,List.filter_append,List.filter_filter]
    have e1 : gg.filter (fun p => decide (p.1 ∉ S)) = [] := List.filter_eq_nil_iff.2 fun p hp => by simpa using (hgg p hp).1
    rw [e1,List.nil_append]
    congr 1
    funext p
    rw [Bool.and_self]
  · intro r hr
    have hk2 : r ∈ gg.map (·.1) := by
      by_cases e : r ∈ gg.map (·.1)
      · exact e
      · have h2 := ((getO_app gg [] r).2 e).2
        exact absurd h2 (hk r hr)
    rw [(getO_app gg _ r).1 hk2]
end Go.Proofs.Ytdijijblccmfbaa
