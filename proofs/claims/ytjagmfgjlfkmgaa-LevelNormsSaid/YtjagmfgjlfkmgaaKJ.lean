/- The canonical form of a level, as the program makes it, its row kept: it can be written to. No condition. -/
import Derived.Test.YtjagmfgjlfkmgaaKLA
import Derived.Test.YtjagmfgjlfkmgaaKLB
set_option linter.unusedSimpArgs false
set_option linter.unusedVariables false
namespace Go.Proofs.Ytjagmfgjlfkmgaa
open Go

theorem mem_drop {h : Hps} {n : Nat} {p : Nat × Ob} : p ∈ dropFrom n h ↔ p ∈ h ∧ p.1 < n := by
  induction h with
  | nil => exact ⟨fun h => (by cases h),fun h => (by cases h.1)⟩
  | cons a t ih =>
    obtain ⟨q,o⟩ := a
    by_cases e : q < n
    · rw [drop_old e,List.mem_cons,List.mem_cons,ih]
      constructor
      · rintro (rfl | h)
        · exact ⟨.inl rfl,e⟩
        · exact ⟨.inr h.1,h.2⟩
      · rintro ⟨rfl | h,h2⟩
        · exact .inl rfl
        · exact .inr ⟨h,h2⟩
    · rw [drop_new (by omega),ih,List.mem_cons]
      constructor
      · rintro ⟨h1,h2⟩; exact ⟨.inr h1,h2⟩
      · rintro ⟨rfl | h,h2⟩
        · exact absurd h2 e
        · exact ⟨h,h2⟩
theorem leak_iff {h : Hps} {n : Nat} : leak n h = false ↔ ∀ p,p ∈ h → p.1 < n → lowO n p.2 := by
  induction h with
  | nil => exact ⟨fun _ p hp => (by cases hp),fun _ => rfl⟩
  | cons a t ih =>
    obtain ⟨q,o⟩ := a
    by_cases e : q < n
    · rw [leak_old e,Bool.or_eq_false_iff,ih]
      constructor
      · rintro ⟨h1,h2⟩ p hp hq
        rcases List.mem_cons.1 hp with rfl | hp
        · exact h1
        · exact h2 p hp hq
      · intro H
        exact ⟨H (q,o) (by simp) e,fun p hp => H p (by simp [hp])⟩
    · rw [leak_new (by omega),ih]
      constructor
      · intro H p hp hq
        rcases List.mem_cons.1 hp with rfl | hp
        · exact absurd hq e
        · exact H p hp hq
      · intro H p hp; exact H p (by simp [hp])
theorem Hp.chain {n0 n1 m : Nat} {h0 h1 G : Hps} (A : Hp n0 h0 n1 h1) (B : Hp n1 h1 m G) : Hp n0 h0 m G := by
  have h01 := A.le
  have h12 := B.le
  have hd : ∀ X : Hps,dropFrom n0 (dropFrom n1 X) = dropFrom n0 X := fun X => by
    induction X with
    | nil => rfl
    | cons x t ih =>
      obtain ⟨q,o⟩ := x
      by_cases e : q < n1
      · rw [drop_old e]
        by_cases e2 : q < n0
        · rw [drop_old e2,drop_old e2,ih]
        · rw [drop_new (by omega),drop_new (by omega),ih]
      · rw [drop_new (by omega),drop_new (by omega),ih]
  refine ⟨by omega,B.good,by rw [← hd,B.drop,A.drop],?_⟩
  rw [leak_iff]
  intro p hp hq
  have : p ∈ h1 := by rw [← B.drop]; exact mem_drop.2 ⟨hp,by omega⟩
  exact leak_iff.1 A.leak p this hq
open Classical in
theorem pick3 {m0 : Nat} {P : Nat → D → Nat → Hps → Prop} (k : ∀ m,m0 ≤ m → ∃ d n h,P m d n h) : ∃ (D' : Nat → D) (N' : Nat → Nat) (H' : Nat → Hps),∀ m,m0 ≤ m → P m (D' m) (N' m) (H' m) := by
  refine ⟨fun m => if hp : m0 ≤ m then Classical.choose (k m hp) else .junk,fun m => if hp : m0 ≤ m then Classical.choose (Classical.choose_spec (k m hp)) else 0,fun m => if hp : m0 ≤ m then Classical.choose (Classical.choose_spec (Classical.choose_spec (k m hp))) else [],fun m hp => ?_⟩
  simp only [dif_pos hp]
  exact Classical.choose_spec (Classical.choose_spec (Classical.choose_spec (k m hp)))

inductive Vw (n : Nat) (h : Hps) (d : D) (l : List LV) : Prop
  | sl (s : Sl LV) (h1 : d = slD 2 encV s) (h2 : s.el = l)
  | ms (r o : Nat) (f : Bool) (es : List LV) (hr : r < n) (h1 : d = .ms 2 r o l.length f) (h2 : getO h r = .row 2 (es.map encV)) (h3 : es.drop o = l) (h4 : o + l.length = es.length)
theorem Vw.len {n : Nat} {h : Hps} {d : D} {l : List LV} (V : Vw n h d l) (m : Nat) (h' : Hps) : lenD m h' .slice d = .ok (.int .i64 (l.length : Nat)) m h' := by
  cases V with
  | sl s h1 h2 => rw [h1,← h2]; exact len_slD
  | ms r o f es hr h1 h2 h3 h4 => rw [h1]; rfl
theorem Vw.view {n : Nat} {h : Hps} {d : D} {l : List LV} (V : Vw n h d l) {h' : Hps} (hq : ∀ q,q < n → getO h' q = getO h q) : Ytjagmfgjlfkmgaa.view 2 h' d = .ok 2 (l.map encV) := by
  cases V with
  | sl s h1 h2 => rw [h1,← h2]; exact view_slD
  | ms r o f es hr h1 h2 h3 h4 =>
    rw [h1]
    show viewR o l.length (getO h' r) = _
    rw [hq r hr,h2]
    show Bool.rec (motive := fun _ => VL) .bad (.ok 2 (takeL l.length (dropL o (es.map encV)))) (Nat.ble (o + l.length) (lenL (es.map encV))) = _
    rw [lenL_eq,List.length_map,ble_iff,decide_eq_true (by omega),takeL_eq,dropL_eq,← List.map_drop,h3,← List.map_take,List.take_length]
theorem Vw.hd {n : Nat} {h : Hps} {d : D} {l : List LV} (V : Vw n h d l) (hl : 0 < l.length) : ∃ ad d',(∀ m h',iaddrD m h' 2 d 0 = .ok ad m h') ∧ (∀ m h',(∀ q,q < n → getO h' q = getO h q) → loadD true 2 m h' ad = .ok (encV l[0]) m h') ∧
    (∀ m h' env,sliceD m h' 2 env d (some (.k (.int .i64 1))) none none = .ok d' m h') ∧ Vw n h d' (l.drop 1) := by
  cases V with
  | sl s h1 h2 =>
    subst h2
    refine ⟨.ip (encV s.el[0]) 0,slD 2 encV (s.cut 1 s.el.length),fun m h' => by rw [h1]; exact iaddr_slD hl,fun m h' _ => ?_,fun m h' env => ?_,.sl (s.cut 1 s.el.length) rfl cut_tl⟩
    · rw [loadD_ip,show encV s.el[0] = .agg [.int .i64 s.el[0].1,.int .i64 s.el[0].2] from rfl]; rfl
    · rw [h1,slice_eq,optE_some,optE_none]
      exact slcX_one (by omega) (by omega)
  | ms r o f es hr h1 h2 h3 h4 =>
    refine ⟨.ptr r (o + 0) 0,.ms 2 r (o + 1) (l.length - 1) f,fun m h' => ?_,fun m h' hq => ?_,fun m h' env => ?_,.ms r (o + 1) f es hr (by rw [List.length_drop]) h2 (by rw [← h3,List.drop_drop]) (by rw [List.length_drop]; omega)⟩
    · rw [h1]
      show ifR (Bool.and (Nat.blt 0 l.length) (Nat.beq 2 2)) (.ok (.ptr r (o + 0) 0) m h') = _
      rw [blt_iff,decide_eq_true hl]; rfl
    · show loadR true 2 (o + 0) 0 m h' (getO h' r) = _
      rw [hq r hr,h2,loadR_row,Nat.add_zero]
      have e1 : (es.map encV).getD o .junk = encV l[0] := by
        rw [List.getD_eq_getElem?_getD,List.getElem?_map,List.getElem?_eq_getElem (by omega)]
        show encV es[o] = _
        congr 1
        subst h3
        simp
      rw [e1,show encV l[0] = .agg [.int .i64 l[0].1,.int .i64 l[0].2] from rfl]; rfl
    · rw [h1]
      show ifR (Nat.beq 2 2) (ifR (Bool.and (Nat.ble 1 l.length) (Bool.and (Nat.ble l.length l.length) (Bool.or (Bool.not f) (Nat.beq l.length l.length)))) (.ok (.ms 2 r (o + 1) (l.length - 1) f) m h')) = _
      rw [ble_iff,ble_iff,decide_eq_true (show 1 ≤ l.length from hl),decide_eq_true (Nat.le_refl _),show Nat.beq l.length l.length = true from Nat.beq_refl _]
      cases f <;> rfl
theorem Bld.vw {n0 n : Nat} {h : Hps} {d : D} {l : List LV} (B : Bld 2 encV n0 l h d) (hg : GoodAt n h) : Vw n h d l := by
  rcases B with ⟨rfl,rfl⟩ | ⟨r,q1,q2,q3,q4⟩
  · exact .sl (Sl.app []) rfl rfl
  · exact .ms r 0 false l (getO_low hg (by rw [q4]; simp)) q3 q4 (List.drop_zero) (by omega)

set_option maxHeartbeats 4000000 in
theorem kJoined (n : Nat) (h : Hps) (hg : ∀ k,n ≤ k → GoodAt k h) (d0 : D) (a : List LV) (V : Vw n h d0 a) (b : Sl LV) (ha : a.length + b.el.length < 1000000000000) :
    ∃ d' n' h',callFn (LX (cFk kN Try.prog)) n h [d0,slD 2 encV b,.fn 75 [] [],.fn 76 [] []] (cFk kN Try.prog 74) = .ok d' n' h' ∧ Hp n h n' h' ∧ Bld 2 encV n (merge a b.el) h' d' := by
  have hgn := hg n (Nat.le_refl _)
  have cN : ∀ m (p : LV),callFn (LX (cFk kN Try.prog)) m [] [.agg [.int .i64 p.1,.int .i64 p.2]] (cFk kN Try.prog 75) = .ok (.int .i64 p.1) m [] := fun m p => lvNumber m [] (fun _ _ => good_nil) p
  have cG : ∀ m (p q : LV),callFn (LX (cFk kN Try.prog)) m [] [.agg [.int .i64 p.1,.int .i64 p.2],.agg [.int .i64 q.1,.int .i64 q.2]] (cFk kN Try.prog 76) = .ok (.agg [.int .i64 (grt p q).1,.int .i64 (grt p q).2]) m [] := fun m p q => lvGreater m [] (fun _ _ => good_nil) p q
  rw [f74_eq]; unfold c74; rw [callFn_eqK (by rfl)]
  simp (disch:=first|assumption|omega|(simp (disch:=first|assumption|omega) only [sB,Nat.reduceAdd,Nat.reduceLT,Nat.reduceLeDiff,Nat.reduceEqDiff,Nat.reduceMul,↓reduceIte];done)|fail) only [sA,↓reduceIte,Nat.reduceLT,Nat.reduceEqDiff,Nat.reduceAdd,Nat.reduceLeDiff]
  generalize hr : LX (cFk kN Try.prog) (.loop l74_0) _ _ _ = r
  obtain ⟨x,e2,n2,h2,rfl,rfl,H2,a2,b2,da2,l2,d2,V2,q0,q1,q2,B2,g0,g1,g9⟩ := loop_at hr
    (fun j e n' h' => Hp n h n' h' ∧ ∃ (a' : List LV) (b' : Sl LV) (da : D) (l : List LV) (d : D) (f : Nat),Vw n h da a' ∧ a'.length + b'.el.length = j ∧ j ≤ f ∧ l.length + j ≤ a.length + b.el.length ∧ l ++ mergeF f a' b'.el = merge a b.el ∧ Bld 2 encV n l h' d ∧
      get (po 0) e = da ∧ get (po 1) e = slD 2 encV b' ∧ get (po 2) e = .fn 75 [] [] ∧ get (po 3) e = .fn 76 [] [] ∧ get (po 9) e = d)
    (fun x e n' h' => x = .exit 0 ∧ Hp n h n' h' ∧ ∃ (a' : List LV) (b' : Sl LV) (da : D) (l : List LV) (d : D),Vw n h da a' ∧ (a' = [] ∨ b'.el = []) ∧ l.length + (a'.length + b'.el.length) ≤ a.length + b.el.length ∧ l ++ (a' ++ b'.el) = merge a b.el ∧ Bld 2 encV n l h' d ∧
      get (po 0) e = da ∧ get (po 1) e = slD 2 encV b' ∧ get (po 9) e = d)
    (by
      rintro j e n' h' ⟨H,a',b',da,l,d,f,W,hj,hf,hl,hm,hB,g0,g1,g2,g3,g9⟩
      have w1 := W.len
      unfold l74_0
      by_cases h1 : a'.length = 0
      · have e1 : a' = [] := List.length_eq_zero_iff.1 h1
        rw [e1,mergeF_nil1] at hm
        simp (disch:=first|assumption|omega|(simp (disch:=first|assumption|omega) only [sB,Nat.reduceAdd,Nat.reduceLT,Nat.reduceLeDiff,Nat.reduceEqDiff,Nat.reduceMul,↓reduceIte];done)|fail) only [sA,↓reduceIte,Nat.reduceLT,Nat.reduceEqDiff,Nat.reduceAdd,Nat.reduceLeDiff,g0,g1,g2,g3,g9,w1]
        exact ⟨_,_,_,_,rfl,.inr ⟨by simp,rfl,H.mono (by omega),a',b',da,l,d,W,.inl e1,by omega,by rw [e1]; exact hm,hB,by simp (disch:=first|assumption|omega|(simp (disch:=first|assumption|omega) only [sB,Nat.reduceAdd,Nat.reduceLT,Nat.reduceLeDiff,Nat.reduceEqDiff,Nat.reduceMul,↓reduceIte];done)|fail) only [sA,↓reduceIte,Nat.reduceLT,Nat.reduceEqDiff,Nat.reduceAdd,Nat.reduceLeDiff,g0],by simp (disch:=first|assumption|omega|(simp (disch:=first|assumption|omega) only [sB,Nat.reduceAdd,Nat.reduceLT,Nat.reduceLeDiff,Nat.reduceEqDiff,Nat.reduceMul,↓reduceIte];done)|fail) only [sA,↓reduceIte,Nat.reduceLT,Nat.reduceEqDiff,Nat.reduceAdd,Nat.reduceLeDiff,g1],by simp (disch:=first|assumption|omega|(simp (disch:=first|assumption|omega) only [sB,Nat.reduceAdd,Nat.reduceLT,Nat.reduceLeDiff,Nat.reduceEqDiff,Nat.reduceMul,↓reduceIte];done)|fail) only [sA,↓reduceIte,Nat.reduceLT,Nat.reduceEqDiff,Nat.reduceAdd,Nat.reduceLeDiff,g9]⟩⟩
      · by_cases h2 : b'.el.length = 0
        · have e1 : b'.el = [] := List.length_eq_zero_iff.1 h2
          rw [e1,mergeF_nil2] at hm
          simp (disch:=first|assumption|omega|(simp (disch:=first|assumption|omega) only [sB,Nat.reduceAdd,Nat.reduceLT,Nat.reduceLeDiff,Nat.reduceEqDiff,Nat.reduceMul,↓reduceIte];done)|fail) only [sA,↓reduceIte,Nat.reduceLT,Nat.reduceEqDiff,Nat.reduceAdd,Nat.reduceLeDiff,g0,g1,g2,g3,g9,w1]
          exact ⟨_,_,_,_,rfl,.inr ⟨by simp,rfl,H.mono (by omega),a',b',da,l,d,W,.inr e1,by omega,by rw [e1,List.append_nil]; exact hm,hB,by simp (disch:=first|assumption|omega|(simp (disch:=first|assumption|omega) only [sB,Nat.reduceAdd,Nat.reduceLT,Nat.reduceLeDiff,Nat.reduceEqDiff,Nat.reduceMul,↓reduceIte];done)|fail) only [sA,↓reduceIte,Nat.reduceLT,Nat.reduceEqDiff,Nat.reduceAdd,Nat.reduceLeDiff,g0],by simp (disch:=first|assumption|omega|(simp (disch:=first|assumption|omega) only [sB,Nat.reduceAdd,Nat.reduceLT,Nat.reduceLeDiff,Nat.reduceEqDiff,Nat.reduceMul,↓reduceIte];done)|fail) only [sA,↓reduceIte,Nat.reduceLT,Nat.reduceEqDiff,Nat.reduceAdd,Nat.reduceLeDiff,g1],by simp (disch:=first|assumption|omega|(simp (disch:=first|assumption|omega) only [sB,Nat.reduceAdd,Nat.reduceLT,Nat.reduceLeDiff,Nat.reduceEqDiff,Nat.reduceMul,↓reduceIte];done)|fail) only [sA,↓reduceIte,Nat.reduceLT,Nat.reduceEqDiff,Nat.reduceAdd,Nat.reduceLeDiff,g9]⟩⟩
        · obtain ⟨f,rfl⟩ : ∃ i,f = i + 1 := ⟨f - 1,by omega⟩
          have ea := el_hd (l := a') (by omega)
          have eb := el_hd (l := b'.el) (by omega)
          have dA : (a'.drop 1).length = a'.length - 1 := by rw [List.length_drop]
          have db : (b'.el.drop 1).length = b'.el.length - 1 := by rw [List.length_drop]
          have hm' := hm
          rw [ea,eb,mergeF_cons,← ea,← eb] at hm'
          obtain ⟨ad,dt,w2,w3,w4,W2⟩ := W.hd (by omega)
          have w5 : ∀ m,loadD true 2 m h' ad = .ok (encV a'[0]) m h' := fun m => w3 m h' (fun q hq => H.get hq)
          simp only [encV] at w5
          have sz : (l.length + 1) * 16 ≤ 140737488355328 := by omega
          have cN2 : ∀ m (p : LV),n' ≤ m → callFn (LX (cFk kN Try.prog)) m h' [.agg [.int .i64 p.1,.int .i64 p.2]] (cFk kN Try.prog 75) = .ok (.int .i64 p.1) m h' := fun m p hm => lvNumber m h' (H.good' hm) p
          have cG2 : ∀ m (p q : LV),n' ≤ m → callFn (LX (cFk kN Try.prog)) m h' [.agg [.int .i64 p.1,.int .i64 p.2],.agg [.int .i64 q.1,.int .i64 q.2]] (cFk kN Try.prog 76) = .ok (.agg [.int .i64 (grt p q).1,.int .i64 (grt p q).2]) m h' := fun m p q hm => lvGreater m h' (H.good' hm) p q
          by_cases h3 : a'[0].1 < b'.el[0].1
          · rw [if_pos h3] at hm'
            obtain ⟨D',H',A1,A2,A3⟩ := app_bld1 hB H lowV a'[0] sz
            simp only [encV] at A1
            simp (disch:=first|assumption|omega|(simp (disch:=first|assumption|omega) only [sB,Nat.reduceAdd,Nat.reduceLT,Nat.reduceLeDiff,Nat.reduceEqDiff,Nat.reduceMul,↓reduceIte];done)|fail) only [sA,↓reduceIte,Nat.reduceLT,Nat.reduceEqDiff,Nat.reduceAdd,Nat.reduceLeDiff,g0,g1,g2,g3,g9,encV,w1,w2,w4,w5,cN,cN2,A1]
            exact ⟨_,_,_,_,rfl,.inl ⟨rfl,j - 1,by omega,(A3 _ (by omega)).mono (by omega),a'.drop 1,b',dt,l ++ [a'[0]],_,f,W2,by rw [dA]; omega,by omega,by simp; omega,by rw [List.append_assoc]; exact hm',A2 _ (by omega),by simp (disch:=first|assumption|omega|(simp (disch:=first|assumption|omega) only [sB,Nat.reduceAdd,Nat.reduceLT,Nat.reduceLeDiff,Nat.reduceEqDiff,Nat.reduceMul,↓reduceIte];done)|fail) only [sA,↓reduceIte,Nat.reduceLT,Nat.reduceEqDiff,Nat.reduceAdd,Nat.reduceLeDiff],by simp (disch:=first|assumption|omega|(simp (disch:=first|assumption|omega) only [sB,Nat.reduceAdd,Nat.reduceLT,Nat.reduceLeDiff,Nat.reduceEqDiff,Nat.reduceMul,↓reduceIte];done)|fail) only [sA,↓reduceIte,Nat.reduceLT,Nat.reduceEqDiff,Nat.reduceAdd,Nat.reduceLeDiff,g1],by simp (disch:=first|assumption|omega|(simp (disch:=first|assumption|omega) only [sB,Nat.reduceAdd,Nat.reduceLT,Nat.reduceLeDiff,Nat.reduceEqDiff,Nat.reduceMul,↓reduceIte];done)|fail) only [sA,↓reduceIte,Nat.reduceLT,Nat.reduceEqDiff,Nat.reduceAdd,Nat.reduceLeDiff,g2],by simp (disch:=first|assumption|omega|(simp (disch:=first|assumption|omega) only [sB,Nat.reduceAdd,Nat.reduceLT,Nat.reduceLeDiff,Nat.reduceEqDiff,Nat.reduceMul,↓reduceIte];done)|fail) only [sA,↓reduceIte,Nat.reduceLT,Nat.reduceEqDiff,Nat.reduceAdd,Nat.reduceLeDiff,g3],by simp (disch:=first|assumption|omega|(simp (disch:=first|assumption|omega) only [sB,Nat.reduceAdd,Nat.reduceLT,Nat.reduceLeDiff,Nat.reduceEqDiff,Nat.reduceMul,↓reduceIte];done)|fail) only [sA,↓reduceIte,Nat.reduceLT,Nat.reduceEqDiff,Nat.reduceAdd,Nat.reduceLeDiff]⟩⟩
          · rw [if_neg h3] at hm'
            by_cases h4 : b'.el[0].1 < a'[0].1
            · rw [if_pos h4] at hm'
              obtain ⟨D',H',A1,A2,A3⟩ := app_bld1 hB H lowV b'.el[0] sz
              simp only [encV] at A1
              simp (disch:=first|assumption|omega|(simp (disch:=first|assumption|omega) only [sB,Nat.reduceAdd,Nat.reduceLT,Nat.reduceLeDiff,Nat.reduceEqDiff,Nat.reduceMul,↓reduceIte];done)|fail) only [sA,↓reduceIte,Nat.reduceLT,Nat.reduceEqDiff,Nat.reduceAdd,Nat.reduceLeDiff,g0,g1,g2,g3,g9,encV,w1,w2,w4,w5,cN,cN2,A1]
              exact ⟨_,_,_,_,rfl,.inl ⟨rfl,j - 1,by omega,(A3 _ (by omega)).mono (by omega),a',b'.cut 1 b'.el.length,da,l ++ [b'.el[0]],_,f,W,by rw [cut_tl,db]; omega,by omega,by simp; omega,by rw [cut_tl,List.append_assoc]; exact hm',A2 _ (by omega),by simp (disch:=first|assumption|omega|(simp (disch:=first|assumption|omega) only [sB,Nat.reduceAdd,Nat.reduceLT,Nat.reduceLeDiff,Nat.reduceEqDiff,Nat.reduceMul,↓reduceIte];done)|fail) only [sA,↓reduceIte,Nat.reduceLT,Nat.reduceEqDiff,Nat.reduceAdd,Nat.reduceLeDiff,g0],by simp (disch:=first|assumption|omega|(simp (disch:=first|assumption|omega) only [sB,Nat.reduceAdd,Nat.reduceLT,Nat.reduceLeDiff,Nat.reduceEqDiff,Nat.reduceMul,↓reduceIte];done)|fail) only [sA,↓reduceIte,Nat.reduceLT,Nat.reduceEqDiff,Nat.reduceAdd,Nat.reduceLeDiff],by simp (disch:=first|assumption|omega|(simp (disch:=first|assumption|omega) only [sB,Nat.reduceAdd,Nat.reduceLT,Nat.reduceLeDiff,Nat.reduceEqDiff,Nat.reduceMul,↓reduceIte];done)|fail) only [sA,↓reduceIte,Nat.reduceLT,Nat.reduceEqDiff,Nat.reduceAdd,Nat.reduceLeDiff,g2],by simp (disch:=first|assumption|omega|(simp (disch:=first|assumption|omega) only [sB,Nat.reduceAdd,Nat.reduceLT,Nat.reduceLeDiff,Nat.reduceEqDiff,Nat.reduceMul,↓reduceIte];done)|fail) only [sA,↓reduceIte,Nat.reduceLT,Nat.reduceEqDiff,Nat.reduceAdd,Nat.reduceLeDiff,g3],by simp (disch:=first|assumption|omega|(simp (disch:=first|assumption|omega) only [sB,Nat.reduceAdd,Nat.reduceLT,Nat.reduceLeDiff,Nat.reduceEqDiff,Nat.reduceMul,↓reduceIte];done)|fail) only [sA,↓reduceIte,Nat.reduceLT,Nat.reduceEqDiff,Nat.reduceAdd,Nat.reduceLeDiff]⟩⟩
            · rw [if_neg h4] at hm'
              obtain ⟨D',H',A1,A2,A3⟩ := app_bld1 hB H lowV (grt a'[0] b'.el[0]) sz
              simp only [encV] at A1
              simp (disch:=first|assumption|omega|(simp (disch:=first|assumption|omega) only [sB,Nat.reduceAdd,Nat.reduceLT,Nat.reduceLeDiff,Nat.reduceEqDiff,Nat.reduceMul,↓reduceIte];done)|fail) only [sA,↓reduceIte,Nat.reduceLT,Nat.reduceEqDiff,Nat.reduceAdd,Nat.reduceLeDiff,g0,g1,g2,g3,g9,encV,w1,w2,w4,w5,cN,cN2,cG,cG2,A1]
              exact ⟨_,_,_,_,rfl,.inl ⟨rfl,j - 2,by omega,(A3 _ (by omega)).mono (by omega),a'.drop 1,b'.cut 1 b'.el.length,dt,l ++ [grt a'[0] b'.el[0]],_,f,W2,by rw [cut_tl,dA,db]; omega,by omega,by simp; omega,by rw [cut_tl,List.append_assoc]; exact hm',A2 _ (by omega),by simp (disch:=first|assumption|omega|(simp (disch:=first|assumption|omega) only [sB,Nat.reduceAdd,Nat.reduceLT,Nat.reduceLeDiff,Nat.reduceEqDiff,Nat.reduceMul,↓reduceIte];done)|fail) only [sA,↓reduceIte,Nat.reduceLT,Nat.reduceEqDiff,Nat.reduceAdd,Nat.reduceLeDiff],by simp (disch:=first|assumption|omega|(simp (disch:=first|assumption|omega) only [sB,Nat.reduceAdd,Nat.reduceLT,Nat.reduceLeDiff,Nat.reduceEqDiff,Nat.reduceMul,↓reduceIte];done)|fail) only [sA,↓reduceIte,Nat.reduceLT,Nat.reduceEqDiff,Nat.reduceAdd,Nat.reduceLeDiff],by simp (disch:=first|assumption|omega|(simp (disch:=first|assumption|omega) only [sB,Nat.reduceAdd,Nat.reduceLT,Nat.reduceLeDiff,Nat.reduceEqDiff,Nat.reduceMul,↓reduceIte];done)|fail) only [sA,↓reduceIte,Nat.reduceLT,Nat.reduceEqDiff,Nat.reduceAdd,Nat.reduceLeDiff,g2],by simp (disch:=first|assumption|omega|(simp (disch:=first|assumption|omega) only [sB,Nat.reduceAdd,Nat.reduceLT,Nat.reduceLeDiff,Nat.reduceEqDiff,Nat.reduceMul,↓reduceIte];done)|fail) only [sA,↓reduceIte,Nat.reduceLT,Nat.reduceEqDiff,Nat.reduceAdd,Nat.reduceLeDiff,g3],by simp (disch:=first|assumption|omega|(simp (disch:=first|assumption|omega) only [sB,Nat.reduceAdd,Nat.reduceLT,Nat.reduceLeDiff,Nat.reduceEqDiff,Nat.reduceMul,↓reduceIte];done)|fail) only [sA,↓reduceIte,Nat.reduceLT,Nat.reduceEqDiff,Nat.reduceAdd,Nat.reduceLeDiff]⟩⟩)
    (a.length + b.el.length) ⟨(Hp.start hg).mono (by omega),a,b,d0,[],.nils,a.length + b.el.length,V,rfl,Nat.le_refl _,by simp,rfl,.inl ⟨rfl,rfl⟩,by simp (disch:=first|assumption|omega|(simp (disch:=first|assumption|omega) only [sB,Nat.reduceAdd,Nat.reduceLT,Nat.reduceLeDiff,Nat.reduceEqDiff,Nat.reduceMul,↓reduceIte];done)|fail) only [sA,↓reduceIte,Nat.reduceLT,Nat.reduceEqDiff,Nat.reduceAdd,Nat.reduceLeDiff],by simp (disch:=first|assumption|omega|(simp (disch:=first|assumption|omega) only [sB,Nat.reduceAdd,Nat.reduceLT,Nat.reduceLeDiff,Nat.reduceEqDiff,Nat.reduceMul,↓reduceIte];done)|fail) only [sA,↓reduceIte,Nat.reduceLT,Nat.reduceEqDiff,Nat.reduceAdd,Nat.reduceLeDiff],by simp (disch:=first|assumption|omega|(simp (disch:=first|assumption|omega) only [sB,Nat.reduceAdd,Nat.reduceLT,Nat.reduceLeDiff,Nat.reduceEqDiff,Nat.reduceMul,↓reduceIte];done)|fail) only [sA,↓reduceIte,Nat.reduceLT,Nat.reduceEqDiff,Nat.reduceAdd,Nat.reduceLeDiff],by simp (disch:=first|assumption|omega|(simp (disch:=first|assumption|omega) only [sB,Nat.reduceAdd,Nat.reduceLT,Nat.reduceLeDiff,Nat.reduceEqDiff,Nat.reduceMul,↓reduceIte];done)|fail) only [sA,↓reduceIte,Nat.reduceLT,Nat.reduceEqDiff,Nat.reduceAdd,Nat.reduceLeDiff],by simp (disch:=first|assumption|omega|(simp (disch:=first|assumption|omega) only [sB,Nat.reduceAdd,Nat.reduceLT,Nat.reduceLeDiff,Nat.reduceEqDiff,Nat.reduceMul,↓reduceIte];done)|fail) only [sA,↓reduceIte,Nat.reduceLT,Nat.reduceEqDiff,Nat.reduceAdd,Nat.reduceLeDiff]⟩
  have w2 := V2.view (h' := h2) (fun q hq => H2.get hq)
  obtain ⟨D1,H1,A1⟩ := app_bld (b := 16) B2 H2 lowV a2 (by omega)
  have B1 := fun m hm => (A1 m hm).2.1
  have P1 := fun m hm => (A1 m hm).2.2
  have E1 := fun m hm => (A1 m hm).1
  obtain ⟨D3,H3,A3⟩ := app_bld (b := 16) (B1 (n2 + 2) (by omega)) (P1 (n2 + 2) (by omega)) lowV b2.el (by simp; omega)
  have E3 := fun m hm => (A3 m hm).1
  have B3 := (A3 (n2 + 4) (by omega)).2.1
  have P3 := (A3 (n2 + 4) (by omega)).2.2.mono (show n2 + 4 + 1 ≤ n2 + 6 by omega)
  rw [List.append_assoc,q2] at B3
  simp (disch:=first|assumption|omega|(simp (disch:=first|assumption|omega) only [sB,Nat.reduceAdd,Nat.reduceLT,Nat.reduceLeDiff,Nat.reduceEqDiff,Nat.reduceMul,↓reduceIte];done)|fail) only [sA,↓reduceIte,Nat.reduceLT,Nat.reduceEqDiff,Nat.reduceAdd,Nat.reduceLeDiff,g0,g1,g9,w2,E1,E3]
  exact ⟨_,_,_,rfl,P3,B3⟩

section
variable (n : Nat) (h : Hps) (hg : ∀ k,n ≤ k → GoodAt k h)
include hg
set_option maxHeartbeats 4000000 in
theorem kNorm0 (N : Int) (d : D) (l : List LV) (ad : Nat → D) (S : Sv 2 encV n h d l ad) (hs : l.length < 1000000000000) : ∃ d' n' h',callFn (LX (cFk kN Try.prog)) n h [.agg [.int .i64 N,d]] (cFk kN Try.prog 69) = .ok (.agg [.int .i64 (Lev.norm ⟨N,l⟩).n,d']) n' h' ∧ Hp n h n' h' ∧ Bld 2 encV n (Lev.norm ⟨N,l⟩).v h' d' := by
  have hgn := hg n (Nat.le_refl _)
  have s1 := S.len
  have s2 := S.idx
  have s3 := S.okD
  have H0 : Hp n h (n + 2) ((n + 1,(Ob.row 2 [.agg [.int .i64 0,.nils]])) :: (n,.row 2 [.agg [.int .i64 N,d]]) :: h) := ((Hp.start hg).cons (r := n) (m := n + 1) (Nat.le_refl _) (by omega) (fun k hk => S.box2 (by omega))).box (m := n + 2) (r := n + 1) (by omega) (by omega) rfl
  rw [f69_eq]; unfold c69; rw [callFn_eqK (by rfl)]
  simp (disch:=first|assumption|omega|(simp (disch:=first|assumption|omega) only [sB,Nat.reduceAdd,Nat.reduceLT,Nat.reduceLeDiff,Nat.reduceEqDiff,Nat.reduceMul,↓reduceIte];done)|fail) only [sA,↓reduceIte,Nat.reduceLT,Nat.reduceEqDiff,Nat.reduceAdd,Nat.reduceLeDiff,s1,s3]
  generalize hr : LX (cFk kN Try.prog) (.loop l69_0) _ _ _ = r
  obtain ⟨x,e2,n2,h2,rfl,rfl,H2,p2,b1,b2,g1,g2,dv,B2,g3⟩ := loop_up hr l.length
    (fun i e n' h' => Hp n h n' h' ∧ n + 2 ≤ n' ∧ getO h' n = .row 2 [.agg [.int .i64 N,d]] ∧ getO h' (n + 1) = (Ob.row 2 [.agg [.int .i64 0,.nils]]) ∧ get (po 1) e = .ptr n 0 0 ∧ get (po 2) e = .ptr (n + 1) 0 0 ∧
      (∃ dv,Bld 2 encV (n + 2) (nfL (l.take i)) h' dv ∧ get (po 3) e = dv) ∧ get (po 10) e = d ∧ get (po 11) e = .int .i64 (l.length : Nat) ∧ get (po 12) e = .int .i64 (i : Nat))
    (fun x e n' h' => x = .exit 0 ∧ Hp n h n' h' ∧ n + 2 ≤ n' ∧ getO h' n = .row 2 [.agg [.int .i64 N,d]] ∧ getO h' (n + 1) = (Ob.row 2 [.agg [.int .i64 0,.nils]]) ∧ get (po 1) e = .ptr n 0 0 ∧ get (po 2) e = .ptr (n + 1) 0 0 ∧
      ∃ dv,Bld 2 encV (n + 2) (nfL l) h' dv ∧ get (po 3) e = dv)
    (by
      rintro e n' h' ⟨H,p1,b1,b2,g1,g2,⟨dv,B,g3⟩,g10,g11,g12⟩
      unfold l69_0
      rw [List.take_length] at B
      simp (disch:=first|assumption|omega|(simp (disch:=first|assumption|omega) only [sB,Nat.reduceAdd,Nat.reduceLT,Nat.reduceLeDiff,Nat.reduceEqDiff,Nat.reduceMul,↓reduceIte];done)|fail) only [sA,↓reduceIte,Nat.reduceLT,Nat.reduceEqDiff,Nat.reduceAdd,Nat.reduceLeDiff,g3,g10,g11,g12]
      exact ⟨_,_,_,_,rfl,by simp,rfl,H.mono (by omega),by omega,b1,b2,by simp (disch:=first|assumption|omega|(simp (disch:=first|assumption|omega) only [sB,Nat.reduceAdd,Nat.reduceLT,Nat.reduceLeDiff,Nat.reduceEqDiff,Nat.reduceMul,↓reduceIte];done)|fail) only [sA,↓reduceIte,Nat.reduceLT,Nat.reduceEqDiff,Nat.reduceAdd,Nat.reduceLeDiff,g1],by simp (disch:=first|assumption|omega|(simp (disch:=first|assumption|omega) only [sB,Nat.reduceAdd,Nat.reduceLT,Nat.reduceLeDiff,Nat.reduceEqDiff,Nat.reduceMul,↓reduceIte];done)|fail) only [sA,↓reduceIte,Nat.reduceLT,Nat.reduceEqDiff,Nat.reduceAdd,Nat.reduceLeDiff,g2],dv,B,by simp (disch:=first|assumption|omega|(simp (disch:=first|assumption|omega) only [sB,Nat.reduceAdd,Nat.reduceLT,Nat.reduceLeDiff,Nat.reduceEqDiff,Nat.reduceMul,↓reduceIte];done)|fail) only [sA,↓reduceIte,Nat.reduceLT,Nat.reduceEqDiff,Nat.reduceAdd,Nat.reduceLeDiff,g3]⟩)
    (by
      rintro i e n' h' hi ⟨H,p1,b1,b2,g1,g2,⟨dv,B,g3⟩,g10,g11,g12⟩
      unfold l69_0
      have H1 : Hp n h (n' + 4) ((n' + 3,.row 2 [encV l[i]]) :: h') := H.box (by omega) (by omega) rfl
      have s4 := S.at H
      have hlen := nf_len (nfL_nf (l.take i))
      rw [List.length_take] at hlen
      have B' : Bld 2 encV (n + 2) (nfL (l.take i)) ((n' + 3,.row 2 [encV l[i]]) :: h') dv := B.cons (H.good n' (Nat.le_refl _)) (by omega)
      obtain ⟨D',N',H',hJ⟩ := pick3 (m0 := n' + 4) (fun m hm => kJoined m ((n' + 3,.row 2 [encV l[i]]) :: h') (H1.good' hm) dv (nfL (l.take i)) (B'.vw (H1.good m hm)) ⟨false,true,[l[i]],[]⟩ (by show (nfL (l.take i)).length + 1 < _; omega))
      have c1 : ∀ m,n' + 4 ≤ m → callFn (LX (cFk kN Try.prog)) m ((n' + 3,.row 2 [.agg [.int .i64 l[i].1,.int .i64 l[i].2]]) :: h') [dv,.sl 2 [.agg [.int .i64 l[i].1,.int .i64 l[i].2]] [] true,.fn 75 [] [],.fn 76 [] []] (cFk kN Try.prog 74) =
          .ok (D' m) (N' m) (H' m) := fun m hm => (hJ m hm).1
      simp (disch:=first|assumption|omega|(simp (disch:=first|assumption|omega) only [sB,Nat.reduceAdd,Nat.reduceLT,Nat.reduceLeDiff,Nat.reduceEqDiff,Nat.reduceMul,↓reduceIte];done)|fail) only [sA,↓reduceIte,Nat.reduceLT,Nat.reduceEqDiff,Nat.reduceAdd,Nat.reduceLeDiff,g3,g10,g11,g12,s2,s4,encV,c1]
      have q1 := (hJ (n' + 9) (by omega)).2.1
      have q2 := (hJ (n' + 9) (by omega)).2.2.wide (n2 := n + 2) (by omega)
      rw [show merge (nfL (l.take i)) ([l[i]] : List LV) = nfL (l.take (i + 1)) by rw [take_snoc hi,nfL_app]] at q2
      exact ⟨_,_,_,_,rfl,.inl ⟨rfl,((H1.mono (by omega)).chain q1).mono (by omega),by have := q1.le; omega,by rw [q1.get (by omega)]; exact getO_keep b1 (by omega),by rw [q1.get (by omega)]; exact getO_keep b2 (by omega),by simp (disch:=first|assumption|omega|(simp (disch:=first|assumption|omega) only [sB,Nat.reduceAdd,Nat.reduceLT,Nat.reduceLeDiff,Nat.reduceEqDiff,Nat.reduceMul,↓reduceIte];done)|fail) only [sA,↓reduceIte,Nat.reduceLT,Nat.reduceEqDiff,Nat.reduceAdd,Nat.reduceLeDiff,g1],by simp (disch:=first|assumption|omega|(simp (disch:=first|assumption|omega) only [sB,Nat.reduceAdd,Nat.reduceLT,Nat.reduceLeDiff,Nat.reduceEqDiff,Nat.reduceMul,↓reduceIte];done)|fail) only [sA,↓reduceIte,Nat.reduceLT,Nat.reduceEqDiff,Nat.reduceAdd,Nat.reduceLeDiff,g2],⟨_,q2,by simp (disch:=first|assumption|omega|(simp (disch:=first|assumption|omega) only [sB,Nat.reduceAdd,Nat.reduceLT,Nat.reduceLeDiff,Nat.reduceEqDiff,Nat.reduceMul,↓reduceIte];done)|fail) only [sA,↓reduceIte,Nat.reduceLT,Nat.reduceEqDiff,Nat.reduceAdd,Nat.reduceLeDiff]⟩,by simp (disch:=first|assumption|omega|(simp (disch:=first|assumption|omega) only [sB,Nat.reduceAdd,Nat.reduceLT,Nat.reduceLeDiff,Nat.reduceEqDiff,Nat.reduceMul,↓reduceIte];done)|fail) only [sA,↓reduceIte,Nat.reduceLT,Nat.reduceEqDiff,Nat.reduceAdd,Nat.reduceLeDiff,g10],by simp (disch:=first|assumption|omega|(simp (disch:=first|assumption|omega) only [sB,Nat.reduceAdd,Nat.reduceLT,Nat.reduceLeDiff,Nat.reduceEqDiff,Nat.reduceMul,↓reduceIte];done)|fail) only [sA,↓reduceIte,Nat.reduceLT,Nat.reduceEqDiff,Nat.reduceAdd,Nat.reduceLeDiff,g11],by simp (disch:=first|assumption|omega|(simp (disch:=first|assumption|omega) only [sB,Nat.reduceAdd,Nat.reduceLT,Nat.reduceLeDiff,Nat.reduceEqDiff,Nat.reduceMul,↓reduceIte];done)|fail) only [sA,↓reduceIte,Nat.reduceLT,Nat.reduceEqDiff,Nat.reduceAdd,Nat.reduceLeDiff]⟩⟩)
    ⟨H0.mono (by omega),by omega,by simp (disch:=first|assumption|omega|(simp (disch:=first|assumption|omega) only [sB,Nat.reduceAdd,Nat.reduceLT,Nat.reduceLeDiff,Nat.reduceEqDiff,Nat.reduceMul,↓reduceIte];done)|fail) only [sA,↓reduceIte,Nat.reduceLT,Nat.reduceEqDiff,Nat.reduceAdd,Nat.reduceLeDiff],by simp (disch:=first|assumption|omega|(simp (disch:=first|assumption|omega) only [sB,Nat.reduceAdd,Nat.reduceLT,Nat.reduceLeDiff,Nat.reduceEqDiff,Nat.reduceMul,↓reduceIte];done)|fail) only [sA,↓reduceIte,Nat.reduceLT,Nat.reduceEqDiff,Nat.reduceAdd,Nat.reduceLeDiff],by simp (disch:=first|assumption|omega|(simp (disch:=first|assumption|omega) only [sB,Nat.reduceAdd,Nat.reduceLT,Nat.reduceLeDiff,Nat.reduceEqDiff,Nat.reduceMul,↓reduceIte];done)|fail) only [sA,↓reduceIte,Nat.reduceLT,Nat.reduceEqDiff,Nat.reduceAdd,Nat.reduceLeDiff],by simp (disch:=first|assumption|omega|(simp (disch:=first|assumption|omega) only [sB,Nat.reduceAdd,Nat.reduceLT,Nat.reduceLeDiff,Nat.reduceEqDiff,Nat.reduceMul,↓reduceIte];done)|fail) only [sA,↓reduceIte,Nat.reduceLT,Nat.reduceEqDiff,Nat.reduceAdd,Nat.reduceLeDiff],⟨.nils,.inl ⟨rfl,rfl⟩,by simp (disch:=first|assumption|omega|(simp (disch:=first|assumption|omega) only [sB,Nat.reduceAdd,Nat.reduceLT,Nat.reduceLeDiff,Nat.reduceEqDiff,Nat.reduceMul,↓reduceIte];done)|fail) only [sA,↓reduceIte,Nat.reduceLT,Nat.reduceEqDiff,Nat.reduceAdd,Nat.reduceLeDiff]⟩,by simp (disch:=first|assumption|omega|(simp (disch:=first|assumption|omega) only [sB,Nat.reduceAdd,Nat.reduceLT,Nat.reduceLeDiff,Nat.reduceEqDiff,Nat.reduceMul,↓reduceIte];done)|fail) only [sA,↓reduceIte,Nat.reduceLT,Nat.reduceEqDiff,Nat.reduceAdd,Nat.reduceLeDiff],by simp (disch:=first|assumption|omega|(simp (disch:=first|assumption|omega) only [sB,Nat.reduceAdd,Nat.reduceLT,Nat.reduceLeDiff,Nat.reduceEqDiff,Nat.reduceMul,↓reduceIte];done)|fail) only [sA,↓reduceIte,Nat.reduceLT,Nat.reduceEqDiff,Nat.reduceAdd,Nat.reduceLeDiff],by simp (disch:=first|assumption|omega|(simp (disch:=first|assumption|omega) only [sB,Nat.reduceAdd,Nat.reduceLT,Nat.reduceLeDiff,Nat.reduceEqDiff,Nat.reduceMul,↓reduceIte];done)|fail) only [sA,↓reduceIte,Nat.reduceLT,Nat.reduceEqDiff,Nat.reduceAdd,Nat.reduceLeDiff]⟩
  have hlen := nf_len (nfL_nf l)
  obtain ⟨ad2,S2⟩ := B2.sv (H2.good n2 (Nat.le_refl _)) aggV
  have t1 := S2.len
  have t2 := S2.idx
  have t3 := S2.okD
  have t4 := S2.cellsX
  have t5 := S2.one
  have t6 := S2.sub
  simp (disch:=first|assumption|omega|(simp (disch:=first|assumption|omega) only [sB,Nat.reduceAdd,Nat.reduceLT,Nat.reduceLeDiff,Nat.reduceEqDiff,Nat.reduceMul,↓reduceIte];done)|fail) only [sA,↓reduceIte,Nat.reduceLT,Nat.reduceEqDiff,Nat.reduceAdd,Nat.reduceLeDiff,g1,g2,g3,b1,b2,t1,t3,t4]
  obtain ⟨q,hq⟩ : ∃ q,n2 + 4 = q := ⟨_,rfl⟩
  have lowB : ∀ (z : Int) k,n2 ≤ k → lowO k (.row 2 [.agg [.int .i64 z,dv]]) := fun z k hk => S2.box2 hk
  generalize hv : nfL l = v at *
  generalize hr : LX (cFk kN Try.prog) (.loop l69_1) _ _ _ = r
  obtain ⟨x,e3,n3,h3,rfl,rfl,H3,p3,b4,g2,g6⟩ := loop_up hr v.length
    (fun i e n' h' => Hp n2 h2 n' h' ∧ n2 + 5 ≤ n' ∧ getO h' (n2 + 4) = .row 2 [.agg [.int .i64 (zn N (v.take i)),dv]] ∧ get (po 2) e = .ptr (n + 1) 0 0 ∧ get (po 6) e = .ptr (n2 + 4) 0 0 ∧
      get (po 25) e = dv ∧ get (po 26) e = .int .i64 (v.length : Nat) ∧ get (po 27) e = .int .i64 (i : Nat))
    (fun x e n' h' => x = .exit 2 ∧ Hp n2 h2 n' h' ∧ n2 + 5 ≤ n' ∧ getO h' (n2 + 4) = .row 2 [.agg [.int .i64 (zn N v),dv]] ∧ get (po 2) e = .ptr (n + 1) 0 0 ∧ get (po 6) e = .ptr (n2 + 4) 0 0)
    (by
      rintro e n' h' ⟨H,p1,b6,g2,g6,g25,g26,g27⟩
      unfold l69_1
      rw [List.take_length] at b6
      simp (disch:=first|assumption|omega|(simp (disch:=first|assumption|omega) only [sB,Nat.reduceAdd,Nat.reduceLT,Nat.reduceLeDiff,Nat.reduceEqDiff,Nat.reduceMul,↓reduceIte];done)|fail) only [sA,↓reduceIte,Nat.reduceLT,Nat.reduceEqDiff,Nat.reduceAdd,Nat.reduceLeDiff,g25,g26,g27]
      exact ⟨_,_,_,_,rfl,by simp,rfl,H.mono (by omega),by omega,b6,by simp (disch:=first|assumption|omega|(simp (disch:=first|assumption|omega) only [sB,Nat.reduceAdd,Nat.reduceLT,Nat.reduceLeDiff,Nat.reduceEqDiff,Nat.reduceMul,↓reduceIte];done)|fail) only [sA,↓reduceIte,Nat.reduceLT,Nat.reduceEqDiff,Nat.reduceAdd,Nat.reduceLeDiff,g2],by simp (disch:=first|assumption|omega|(simp (disch:=first|assumption|omega) only [sB,Nat.reduceAdd,Nat.reduceLT,Nat.reduceLeDiff,Nat.reduceEqDiff,Nat.reduceMul,↓reduceIte];done)|fail) only [sA,↓reduceIte,Nat.reduceLT,Nat.reduceEqDiff,Nat.reduceAdd,Nat.reduceLeDiff,g6]⟩)
    (by
      rintro i e n' h' hi ⟨H,p1,b6,g2,g6,g25,g26,g27⟩
      unfold l69_1
      have s4 := S2.at H
      have H1 : Hp n2 h2 (n' + 4) ((n' + 3,.row 2 [encV v[i]]) :: h') := H.box (by omega) (by omega) rfl
      have hz := zn_snoc N (v.take i) v[i]
      rw [← take_snoc hi] at hz
      by_cases hc : zn N (v.take i) ≤ v[i].2
      · rw [if_pos hc] at hz
        simp (disch:=first|assumption|omega|(simp (disch:=first|assumption|omega) only [sB,Nat.reduceAdd,Nat.reduceLT,Nat.reduceLeDiff,Nat.reduceEqDiff,Nat.reduceMul,↓reduceIte];done)|fail) only [sA,↓reduceIte,Nat.reduceLT,Nat.reduceEqDiff,Nat.reduceAdd,Nat.reduceLeDiff,g2,g6,g25,g26,g27,t2,s4,encV,b6]
        exact ⟨_,_,_,_,rfl,.inl ⟨rfl,((H.set (r := n2 + 4) (by omega) (fun k _ => lowB 0 k (by omega))).box (r := n' + 3) (m := n' + 4) (by omega) (by omega) rfl).mono (by omega),by omega,by rw [hz]; exact getO_keep (getO_set1 b6) (by omega),by simp (disch:=first|assumption|omega|(simp (disch:=first|assumption|omega) only [sB,Nat.reduceAdd,Nat.reduceLT,Nat.reduceLeDiff,Nat.reduceEqDiff,Nat.reduceMul,↓reduceIte];done)|fail) only [sA,↓reduceIte,Nat.reduceLT,Nat.reduceEqDiff,Nat.reduceAdd,Nat.reduceLeDiff,g2],by simp (disch:=first|assumption|omega|(simp (disch:=first|assumption|omega) only [sB,Nat.reduceAdd,Nat.reduceLT,Nat.reduceLeDiff,Nat.reduceEqDiff,Nat.reduceMul,↓reduceIte];done)|fail) only [sA,↓reduceIte,Nat.reduceLT,Nat.reduceEqDiff,Nat.reduceAdd,Nat.reduceLeDiff,g6],by simp (disch:=first|assumption|omega|(simp (disch:=first|assumption|omega) only [sB,Nat.reduceAdd,Nat.reduceLT,Nat.reduceLeDiff,Nat.reduceEqDiff,Nat.reduceMul,↓reduceIte];done)|fail) only [sA,↓reduceIte,Nat.reduceLT,Nat.reduceEqDiff,Nat.reduceAdd,Nat.reduceLeDiff,g25],by simp (disch:=first|assumption|omega|(simp (disch:=first|assumption|omega) only [sB,Nat.reduceAdd,Nat.reduceLT,Nat.reduceLeDiff,Nat.reduceEqDiff,Nat.reduceMul,↓reduceIte];done)|fail) only [sA,↓reduceIte,Nat.reduceLT,Nat.reduceEqDiff,Nat.reduceAdd,Nat.reduceLeDiff,g26],by simp (disch:=first|assumption|omega|(simp (disch:=first|assumption|omega) only [sB,Nat.reduceAdd,Nat.reduceLT,Nat.reduceLeDiff,Nat.reduceEqDiff,Nat.reduceMul,↓reduceIte];done)|fail) only [sA,↓reduceIte,Nat.reduceLT,Nat.reduceEqDiff,Nat.reduceAdd,Nat.reduceLeDiff]⟩⟩
      · rw [if_neg hc] at hz
        simp (disch:=first|assumption|omega|(simp (disch:=first|assumption|omega) only [sB,Nat.reduceAdd,Nat.reduceLT,Nat.reduceLeDiff,Nat.reduceEqDiff,Nat.reduceMul,↓reduceIte];done)|fail) only [sA,↓reduceIte,Nat.reduceLT,Nat.reduceEqDiff,Nat.reduceAdd,Nat.reduceLeDiff,g2,g6,g25,g26,g27,t2,s4,encV,b6]
        exact ⟨_,_,_,_,rfl,.inl ⟨rfl,H1.mono (by omega),by omega,by rw [hz]; exact getO_keep b6 (by omega),by simp (disch:=first|assumption|omega|(simp (disch:=first|assumption|omega) only [sB,Nat.reduceAdd,Nat.reduceLT,Nat.reduceLeDiff,Nat.reduceEqDiff,Nat.reduceMul,↓reduceIte];done)|fail) only [sA,↓reduceIte,Nat.reduceLT,Nat.reduceEqDiff,Nat.reduceAdd,Nat.reduceLeDiff,g2],by simp (disch:=first|assumption|omega|(simp (disch:=first|assumption|omega) only [sB,Nat.reduceAdd,Nat.reduceLT,Nat.reduceLeDiff,Nat.reduceEqDiff,Nat.reduceMul,↓reduceIte];done)|fail) only [sA,↓reduceIte,Nat.reduceLT,Nat.reduceEqDiff,Nat.reduceAdd,Nat.reduceLeDiff,g6],by simp (disch:=first|assumption|omega|(simp (disch:=first|assumption|omega) only [sB,Nat.reduceAdd,Nat.reduceLT,Nat.reduceLeDiff,Nat.reduceEqDiff,Nat.reduceMul,↓reduceIte];done)|fail) only [sA,↓reduceIte,Nat.reduceLT,Nat.reduceEqDiff,Nat.reduceAdd,Nat.reduceLeDiff,g25],by simp (disch:=first|assumption|omega|(simp (disch:=first|assumption|omega) only [sB,Nat.reduceAdd,Nat.reduceLT,Nat.reduceLeDiff,Nat.reduceEqDiff,Nat.reduceMul,↓reduceIte];done)|fail) only [sA,↓reduceIte,Nat.reduceLT,Nat.reduceEqDiff,Nat.reduceAdd,Nat.reduceLeDiff,g26],by simp (disch:=first|assumption|omega|(simp (disch:=first|assumption|omega) only [sB,Nat.reduceAdd,Nat.reduceLT,Nat.reduceLeDiff,Nat.reduceEqDiff,Nat.reduceMul,↓reduceIte];done)|fail) only [sA,↓reduceIte,Nat.reduceLT,Nat.reduceEqDiff,Nat.reduceAdd,Nat.reduceLeDiff]⟩⟩)
    ⟨((Hp.start (H2.good' (Nat.le_refl _))).cons (r := n2 + 4) (m := n2 + 5) (by omega) (by omega) (fun k _ => lowB N k (by omega))).mono (by omega),by omega,getO_hd,by simp (disch:=first|assumption|omega|(simp (disch:=first|assumption|omega) only [sB,Nat.reduceAdd,Nat.reduceLT,Nat.reduceLeDiff,Nat.reduceEqDiff,Nat.reduceMul,↓reduceIte];done)|fail) only [sA,↓reduceIte,Nat.reduceLT,Nat.reduceEqDiff,Nat.reduceAdd,Nat.reduceLeDiff,g2],by simp (disch:=first|assumption|omega|(simp (disch:=first|assumption|omega) only [sB,Nat.reduceAdd,Nat.reduceLT,Nat.reduceLeDiff,Nat.reduceEqDiff,Nat.reduceMul,↓reduceIte];done)|fail) only [sA,↓reduceIte,Nat.reduceLT,Nat.reduceEqDiff,Nat.reduceAdd,Nat.reduceLeDiff],by simp (disch:=first|assumption|omega|(simp (disch:=first|assumption|omega) only [sB,Nat.reduceAdd,Nat.reduceLT,Nat.reduceLeDiff,Nat.reduceEqDiff,Nat.reduceMul,↓reduceIte];done)|fail) only [sA,↓reduceIte,Nat.reduceLT,Nat.reduceEqDiff,Nat.reduceAdd,Nat.reduceLeDiff],by simp (disch:=first|assumption|omega|(simp (disch:=first|assumption|omega) only [sB,Nat.reduceAdd,Nat.reduceLT,Nat.reduceLeDiff,Nat.reduceEqDiff,Nat.reduceMul,↓reduceIte];done)|fail) only [sA,↓reduceIte,Nat.reduceLT,Nat.reduceEqDiff,Nat.reduceAdd,Nat.reduceLeDiff],by simp (disch:=first|assumption|omega|(simp (disch:=first|assumption|omega) only [sB,Nat.reduceAdd,Nat.reduceLT,Nat.reduceLeDiff,Nat.reduceEqDiff,Nat.reduceMul,↓reduceIte];done)|fail) only [sA,↓reduceIte,Nat.reduceLT,Nat.reduceEqDiff,Nat.reduceAdd,Nat.reduceLeDiff]⟩
  have b3 : getO h3 (n + 1) = .row 2 [.agg [.int .i64 0,.nils]] := by rw [H3.get (by omega)]; exact b2
  have bS : getO (setO h3 (n + 1) (.row 2 [.agg [.int .i64 (zn N v),dv]])) (n + 1) = _ := getO_set1 b3
  have H4 : Hp n h n3 (setO h3 (n + 1) (.row 2 [.agg [.int .i64 (zn N v),dv]])) := (H2.chain H3).set (r := n + 1) (by omega) (fun k hk => lowB _ k (by have := H3.le; omega))
  have B3 : Bld 2 encV (n + 2) v h3 dv := by
    rcases B2 with hB | ⟨r,q1,q2,q3,q4⟩
    · exact .inl hB
    · exact .inr ⟨r,q1,q2,q3,by rw [H3.get (getO_low (H2.good n2 (Nat.le_refl _)) (by rw [q4]; simp))]; exact q4⟩
  have B4 := (B3.set (x := .row 2 [.agg [.int .i64 (zn N v),dv]]) b3 (by omega)).wide (n2 := n) (by omega)
  have e1 : (Lev.norm ⟨N,l⟩).n = zn N v := by rw [← hv]; rfl
  have e2' : (Lev.norm ⟨N,l⟩).v = v := by rw [← hv]; rfl
  rw [e1,e2']
  simp (disch:=first|assumption|omega|(simp (disch:=first|assumption|omega) only [sB,Nat.reduceAdd,Nat.reduceLT,Nat.reduceLeDiff,Nat.reduceEqDiff,Nat.reduceMul,↓reduceIte];done)|fail) only [sA,↓reduceIte,Nat.reduceLT,Nat.reduceEqDiff,Nat.reduceAdd,Nat.reduceLeDiff,g2,g6,b3,b4,bS,t3]
  exact ⟨dv,_,_,rfl,H4.mono (by omega),B4⟩
set_option maxHeartbeats 4000000 in
theorem kNorm (N : Int) (d : D) (l : List LV) (ad : Nat → D) (S : Sv 2 encV n h d l ad) : ∃ d' n' h',callFn (LX (cFk kN Try.prog)) n h [(D.agg [.int .i64 (N),d])] (cFk kN Try.prog 36) = .ok (.tup [.agg [.int .i64 (Lev.nrm ⟨N,l⟩).1.n,d'],.int .i64 (Lev.nrm ⟨N,l⟩).2]) n' h' ∧ Hp n h n' h' ∧ Bld 2 encV n (Lev.nrm ⟨N,l⟩).1.v h' d' := by
  have hgn := hg n (Nat.le_refl _)
  have s3 := S.okD
  have H0 : Hp n h (n + 2) ((n + 1,(Ob.row 2 [.agg [.int .i64 0,.nils]])) :: (n,(Ob.row 2 [.agg [.int .i64 (N),d]])) :: h) := ((Hp.start hg).cons (r := n) (m := n + 1) (Nat.le_refl _) (by omega) (fun k hk => S.box2 (by omega))).box (m := n + 2) (r := n + 1) (by omega) (by omega) rfl
  have c1 : ∀ m,n + 2 ≤ m → callFn (LX (cFk kN Try.prog)) m ((n + 1,(Ob.row 2 [.agg [.int .i64 0,.nils]])) :: (n,(Ob.row 2 [.agg [.int .i64 (N),d]])) :: h) [(D.agg [.int .i64 (N),d])] (cFk kN Try.prog 68) = .ok (.bool (Lev.right ⟨N,l⟩)) m ((n + 1,(Ob.row 2 [.agg [.int .i64 0,.nils]])) :: (n,(Ob.row 2 [.agg [.int .i64 (N),d]])) :: h) := fun m hm => lvRightA m _ (H0.good' hm) N d l ad (S.mono H0 hm)
  unfold Lev.nrm
  cases hb : Lev.right ⟨N,l⟩ with
  | true =>
    obtain ⟨D',N',H',hJ⟩ := pick3 (m0 := n + 2) (fun m hm => kNorm0 m ((n + 1,(Ob.row 2 [.agg [.int .i64 0,.nils]])) :: (n,(Ob.row 2 [.agg [.int .i64 (N),d]])) :: h) (H0.good' hm) N d l ad (S.mono H0 hm) (by have : l.length ≤ 64 := (right_iff.1 hb).2.1; omega))
    have c0 := fun m hm => (hJ m hm).1
    rw [if_pos rfl]
    rw [hb] at c1
    rw [f36_eq]; unfold c36; rw [callFn_eqK (by rfl)]
    have q1 := (hJ (n + 9) (by omega)).2.1
    have q2 := (hJ (n + 9) (by omega)).2.2
    have z1 : getO (H' (n + 9)) (n + 1) = (Ob.row 2 [.agg [.int .i64 0,.nils]]) := by rw [q1.get (by omega),getO_hd]
    have t3 := q2.okD
    have bS : ∀ X,getO (setO (H' (n + 9)) (n + 1) X) (n + 1) = X := fun X => getO_setO_same (by rw [z1]; simp)
    have q3 := q2.set (x := .row 2 [.agg [.int .i64 (Lev.norm ⟨N,l⟩).n,D' (n + 9)]]) z1 (show n + 1 < n + 9 by omega)
    have lowX : ∀ k,N' (n + 9) ≤ k → lowO k (.row 2 [.agg [.int .i64 (Lev.norm ⟨N,l⟩).n,D' (n + 9)]]) := fun k hk => q2.box2 (q1.good k hk)
    simp (disch:=first|assumption|omega|(simp (disch:=first|assumption|omega) only [sB,Nat.reduceAdd,Nat.reduceLT,Nat.reduceLeDiff,Nat.reduceEqDiff,Nat.reduceMul,↓reduceIte];done)|fail) only [sA,↓reduceIte,Nat.reduceLT,Nat.reduceEqDiff,Nat.reduceAdd,Nat.reduceLeDiff,c0,c1,s3,z1,bS,t3]
    exact ⟨_,_,_,rfl,(((H0.mono (by omega)).chain q1).set (r := n + 1) (by omega) lowX).mono (by omega),q3.wide (by omega)⟩
  | false =>
    rw [if_neg (by decide)]
    rw [hb] at c1
    rw [f36_eq]; unfold c36; rw [callFn_eqK (by rfl)]
    simp (disch:=first|assumption|omega|(simp (disch:=first|assumption|omega) only [sB,Nat.reduceAdd,Nat.reduceLT,Nat.reduceLeDiff,Nat.reduceEqDiff,Nat.reduceMul,↓reduceIte];done)|fail) only [sA,↓reduceIte,Nat.reduceLT,Nat.reduceEqDiff,Nat.reduceAdd,Nat.reduceLeDiff,c1,s3]
    exact ⟨.nils,_,_,rfl,H0.mono (by omega),.inl ⟨rfl,rfl⟩⟩
end
end Go.Proofs.Ytjagmfgjlfkmgaa
