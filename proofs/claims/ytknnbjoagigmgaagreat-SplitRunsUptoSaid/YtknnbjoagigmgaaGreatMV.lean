/- Rows of patterns that go on: their parts, and what is put together out of them. No condition. -/
import Derived.Test.YtknnbjoagigmgaaGreatMP
set_option linter.unusedSimpArgs false
set_option linter.unusedVariables false
namespace Go.Proofs.YtknnbjoagigmgaaGreat
open Go

theorem encP_okE (p : Pat) : okE 3 (encP p) = true := by rw [encP_eq,okE_agg]; simp [clo_int,clo_str,clo_slD]
theorem lowP (m : Nat) (p : Pat) : low m (encP p) := by rw [encP_eq]; exact low_flat (flatP p)
theorem aggP (p : Pat) : ∃ cs,encP p = .agg cs ∧ cs.length = 3 := ⟨_,encP_eq p,rfl⟩
theorem delO_low {n r : Nat} {h : Hps} (hg : GoodAt n h) (hr : n ≤ r) : delO h r = h := by
  induction h with
  | nil => rfl
  | cons p t ih =>
    obtain ⟨q,o⟩ := p
    have h1 := good_cons.1 hg
    rw [delO_tl (by have := h1.1; omega),ih h1.2.2]

inductive Rv (b : Bool) (n : Nat) (h : Hps) (d : D) (l : List Pat) : Prop
  | sl (s : Sl Pat) (h1 : d = slD 3 encP s) (h2 : s.el = l)
  | ms (r : Nat) (f : Bool) (es : List Pat) (hr : r < n) (h1 : d = .ms 3 r 0 l.length f) (h2 : getO h r = .row 3 (es.map encP)) (h3 : es.take l.length = l) (h4 : l.length ≤ es.length) (h5 : b = true ∨ f = false)
theorem Rv.len {b : Bool} {n : Nat} {h : Hps} {d : D} {l : List Pat} (V : Rv b n h d l) (m : Nat) (h' : Hps) : lenD m h' .slice d = .ok (.int .i64 (l.length : Nat)) m h' := by
  cases V with
  | sl s h1 h2 => rw [h1,← h2]; exact len_slD
  | ms r f es hr h1 h2 h3 h4 h5 => rw [h1]; rfl
theorem Rv.keep {b : Bool} {n n' : Nat} {h h' : Hps} {d : D} {l : List Pat} (V : Rv b n h d l) (hn : n ≤ n') (hq : ∀ q es,q < n → getO h q = .row 3 es → getO h' q = getO h q) : Rv b n' h' d l := by
  cases V with
  | sl s h1 h2 => exact .sl s h1 h2
  | ms r f es hr h1 h2 h3 h4 h5 => exact .ms r f es (by omega) h1 (by rw [hq r _ hr h2]; exact h2) h3 h4 h5
theorem take_at {es l : List Pat} (h3 : es.take l.length = l) (h4 : l.length ≤ es.length) {i : Nat} (hi : i < l.length) : ∃ hh,es[i]'hh = l[i] := by
  refine ⟨by omega,?_⟩
  have : (es.take l.length)[i]'(by rw [List.length_take]; omega) = l[i] := by simp only [h3]
  rw [← this,List.getElem_take]
theorem row_at {es l : List Pat} (h3 : es.take l.length = l) (h4 : l.length ≤ es.length) {i : Nat} (hi : i < l.length) : (es.map encP).getD i .junk = encP l[i] := by
  obtain ⟨hh,e⟩ := take_at h3 h4 hi
  rw [List.getD_eq_getElem?_getD,List.getElem?_map,List.getElem?_eq_getElem hh,e]; rfl
theorem Rv.at {b : Bool} {n : Nat} {h : Hps} {d : D} {l : List Pat} (V : Rv b n h d l) {i : Nat} (hi : i < l.length) : ∃ ad a0,(∀ m h',iaddrD m h' 3 d i = .ok ad m h') ∧ (∀ m h',faddrD m h' 0 ad = .ok a0 m h') ∧
    (∀ m h',(∀ q es,q < n → getO h q = .row 3 es → getO h' q = getO h q) → loadD true 3 m h' ad = .ok (.agg [.int .i64 l[i].form,.str l[i].name,slD 3 encP l[i].kids]) m h') ∧
    (∀ m h',(∀ q es,q < n → getO h q = .row 3 es → getO h' q = getO h q) → loadD false 1 m h' a0 = .ok (.int .i64 l[i].form) m h') := by
  cases V with
  | sl s h1 h2 =>
    subst h2
    refine ⟨.ip (encP s.el[i]) 0,.ip (encP s.el[i]) 0,fun m h' => by rw [h1]; exact iaddr_slD hi,fun m h' => rfl,fun m h' _ => ?_,fun m h' _ => ?_⟩
    · rw [loadD_ip,encP_eq]; rfl
    · rw [loadD_ip,encP_eq]; rfl
  | ms r f es hr h1 h2 h3 h4 h5 =>
    have e := row_at h3 h4 hi
    refine ⟨.ptr r (0 + i) 0,.ptr r (0 + i) 0,fun m h' => ?_,fun m h' => rfl,fun m h' hq => ?_,fun m h' hq => ?_⟩
    · rw [h1]
      show ifR (Bool.and (Nat.blt i l.length) (Nat.beq 3 3)) (.ok (.ptr r (0 + i) 0) m h') = _
      rw [blt_iff,decide_eq_true hi]; rfl
    · show loadR true 3 (0 + i) 0 m h' (getO h' r) = _
      rw [hq r _ hr h2,h2,loadR_row,Nat.zero_add,e,encP_eq]; rfl
    · show loadR false 1 (0 + i) 0 m h' (getO h' r) = _
      rw [hq r _ hr h2,h2,loadR_row,Nat.zero_add,e,encP_eq]; rfl
theorem Rv.suf {b : Bool} {n : Nat} {h : Hps} {d : D} {l : List Pat} (V : Rv b n h d l) {i : Nat} (hi : i ≤ l.length) : ∃ d3,(∀ m h' env u,ev env u = .int .i64 (i : Nat) → sliceD m h' 3 env d (some u) none none = .ok d3 m h') ∧
    (∀ h',(∀ q es,q < n → getO h q = .row 3 es → getO h' q = getO h q) → view 3 h' d3 = .ok 3 ((l.drop i).map encP)) ∧ (∀ q,getO h q = .none ∨ (∃ es,getO h q = .row 5 es) → memN q (refO d3) = false) := by
  cases V with
  | sl s h1 h2 =>
    subst h2
    refine ⟨slD 3 encP (s.cut i s.el.length),fun m h' env u hu => ?_,fun h' _ => ?_,fun q _ => by rw [refO_slD]; rfl⟩
    · rw [h1,slice_eq,optE_some,optE_none,hu]
      exact slcX_nat hi (by omega)
    · rw [view_slD,Sl.cut_el (Nat.le_refl _)]
      congr 2
      rw [List.take_of_length_le (by rw [List.length_drop]; omega)]
  | ms r f es hr h1 h2 h3 h4 h5 =>
    refine ⟨.ms 3 r (0 + i) (l.length - i) f,fun m h' env u hu => ?_,fun h' hq => ?_,fun q hq => ?_⟩
    · rw [h1]
      show ifR (Nat.beq 3 3) (natR (fun a => slM m h' 3 r 0 l.length f a l.length) (ev env u)) = _
      rw [hu]
      show ifR (Nat.beq 3 3) (ifR (Bool.and (Nat.ble i l.length) (Bool.and (Nat.ble l.length l.length) (Bool.or (Bool.not f) (Nat.beq l.length l.length)))) (.ok (.ms 3 r (0 + i) (l.length - i) f) m h')) = _
      rw [ble_iff,ble_iff,decide_eq_true hi,decide_eq_true (Nat.le_refl _),show Nat.beq l.length l.length = true from Nat.beq_refl _]
      cases f <;> rfl
    · show viewR (0 + i) (l.length - i) (getO h' r) = _
      rw [hq r _ hr h2,h2]
      show Bool.rec (motive := fun _ => VL) .bad (.ok 3 (takeL (l.length - i) (dropL (0 + i) (es.map encP)))) (Nat.ble (0 + i + (l.length - i)) (lenL (es.map encP))) = _
      rw [lenL_eq,List.length_map,ble_iff,decide_eq_true (by omega),takeL_eq,dropL_eq,← List.map_drop,← List.map_take,Nat.zero_add]
      have : (es.drop i).take (l.length - i) = l.drop i := by rw [← List.drop_take,h3]
      rw [this]
    · show memN q [r] = false
      rw [memN_cons,memN_nil,Bool.or_false]
      refine decide_eq_false (fun e => ?_)
      subst e
      rcases hq with hq | ⟨es',hq⟩ <;> rw [h2] at hq <;> cases hq
theorem Rv.pre2 {n : Nat} {h : Hps} {d : D} {l : List Pat} (V : Rv false n h d l) {i : Nat} (hi : i ≤ l.length) : ∃ d1,(∀ m h' env u,ev env u = .int .i64 (i : Nat) → sliceD m h' 3 env d none (some u) none = .ok d1 m h') ∧
    (∀ h',(∀ q es,q < n → getO h q = .row 3 es → getO h' q = getO h q) → view 3 h' d1 = .ok 3 ((l.take i).map encP)) ∧ (∀ q,getO h q = .none ∨ (∃ es,getO h q = .row 5 es) → memN q (refO d1) = false) := by
  cases V with
  | sl s h1 h2 =>
    subst h2
    refine ⟨slD 3 encP (s.cut 0 i),fun m h' env u hu => ?_,fun h' _ => ?_,fun q _ => by rw [refO_slD]; rfl⟩
    · rw [h1,slice_eq,optE_some,optE_none,hu]
      exact slcX_zero (by omega)
    · rw [view_slD,Sl.cut_el hi,List.drop_zero,Nat.sub_zero]
  | ms r f es hr h1 h2 h3 h4 h5 =>
    have hf : f = false := by rcases h5 with h5 | h5; cases h5; exact h5
    subst hf
    refine ⟨.ms 3 r (0 + 0) (i - 0) false,fun m h' env u hu => ?_,fun h' hq => ?_,fun q hq => ?_⟩
    · rw [h1]
      show ifR (Nat.beq 3 3) (natR (fun a => slM m h' 3 r 0 l.length false 0 a) (ev env u)) = _
      rw [hu]
      show ifR (Nat.beq 3 3) (ifR (Bool.and (Nat.ble 0 i) (Bool.and (Nat.ble i l.length) true)) (.ok (.ms 3 r (0 + 0) (i - 0) false) m h')) = _
      rw [ble_iff,ble_iff,decide_eq_true hi,decide_eq_true (Nat.zero_le _)]; rfl
    · show viewR (0 + 0) (i - 0) (getO h' r) = _
      rw [hq r _ hr h2,h2]
      show Bool.rec (motive := fun _ => VL) .bad (.ok 3 (takeL (i - 0) (dropL (0 + 0) (es.map encP)))) (Nat.ble (0 + 0 + (i - 0)) (lenL (es.map encP))) = _
      rw [lenL_eq,List.length_map,ble_iff,decide_eq_true (by omega),takeL_eq,dropL_eq,Nat.sub_zero,Nat.zero_add,List.drop_zero,← List.map_take]
      have : es.take i = l.take i := by rw [← h3,List.take_take,Nat.min_eq_left hi]
      rw [this]
    · show memN q [r] = false
      rw [memN_cons,memN_nil,Bool.or_false]
      refine decide_eq_false (fun e => ?_)
      subst e
      rcases hq with hq | ⟨es',hq⟩ <;> rw [h2] at hq <;> cases hq
theorem Bld.rv {n0 n : Nat} {h : Hps} {d : D} {l : List Pat} (B : Bld 3 encP n0 l h d) (hg : GoodAt n h) : Rv false n h d l := by
  rcases B with ⟨rfl,rfl⟩ | ⟨r,q1,q2,q3,q4⟩
  · exact .sl (Sl.app []) rfl rfl
  · exact .ms r false l (getO_low hg (by rw [q4]; simp)) q3 q4 (List.take_length) (Nat.le_refl _) (.inr rfl)
theorem Rv.ok {b : Bool} {n : Nat} {h : Hps} {d : D} {l : List Pat} (V : Rv b n h d l) : YtknnbjoagigmgaaGreat.one d = true := by
  cases V with
  | sl s h1 h2 => rw [h1]; exact one_slD
  | ms r f es hr h1 h2 h3 h4 h5 => rw [h1]; rfl

inductive Fw (n : Nat) (h : Hps) (d : D) (l : List Pat) : Prop
  | sl (h1 : d = .sl 3 (l.map encP) [] true)
  | ms (r : Nat) (es : List Pat) (hr : r < n) (h1 : d = .ms 3 r 0 l.length true) (h2 : getO h r = .row 3 (es.map encP)) (h3 : es.take l.length = l) (h4 : l.length ≤ es.length)
theorem Fw.rv {n : Nat} {h : Hps} {d : D} {l : List Pat} (V : Fw n h d l) : Rv true n h d l := by
  cases V with
  | sl h1 => exact .sl ⟨false,true,l,[]⟩ h1 rfl
  | ms r es hr h1 h2 h3 h4 => exact .ms r true es hr h1 h2 h3 h4 (.inl rfl)
theorem Rv.pre3 {b : Bool} {n : Nat} {h : Hps} {d : D} {l : List Pat} (V : Rv b n h d l) {i : Nat} (hi : i < l.length) : ∃ d1,(∀ m h' env u v,ev env u = .int .i64 (i : Nat) → ev env v = .int .i64 (i : Nat) → sliceD m h' 3 env d none (some u) (some v) = .ok d1 m h') ∧
    Fw n h d1 (l.take i) ∧ (∀ q,getO h q = .none ∨ (∃ es,getO h q = .row 5 es) → memN q (refO d1) = false) := by
  have ht : (l.take i).length = i := by rw [List.length_take]; omega
  cases V with
  | sl s h1 h2 =>
    subst h2
    refine ⟨.sl 3 ((s.el.take i).map encP) [] true,fun m h' env u v hu hv => ?_,.sl rfl,fun q _ => rfl⟩
    rw [h1]
    have e : slD 3 encP s = .sl 3 (s.el.map encP) (s.sp.map encP) s.full := by
      unfold slD
      cases he : s.el with
      | nil => rw [he] at hi; cases hi
      | cons a t => simp
    rw [e]
    show ifR (Nat.beq 3 3) (natR (fun b => natR (fun c => slL3 m h' 3 (s.el.map encP) (s.sp.map encP) 0 b c) (ev env v)) (ev env u)) = _
    rw [hu,hv]
    show ifR (Nat.beq 3 3) (ifR (Bool.and (Nat.ble 0 i) (Bool.and (Nat.ble i i) (Nat.ble i (lenL (s.el.map encP) + lenL (s.sp.map encP))))) (.ok (.sl 3 (takeL (i - 0) (dropL 0 (appL (s.el.map encP) (s.sp.map encP)))) (dropL i (takeL i (appL (s.el.map encP) (s.sp.map encP)))) (Nat.beq i i)) m h')) = _
    rw [ble_iff,ble_iff,ble_iff,lenL_eq,lenL_eq,List.length_map,List.length_map,decide_eq_true (Nat.zero_le _),decide_eq_true (Nat.le_refl _),decide_eq_true (by omega),takeL_eq,takeL_eq,dropL_eq,dropL_eq,appL_eq,Nat.sub_zero,List.drop_zero,show Nat.beq i i = true from Nat.beq_refl _]
    rw [show (s.el.map encP ++ s.sp.map encP).take i = (s.el.take i).map encP by rw [List.take_append_of_le_length (by rw [List.length_map]; omega),List.map_take]]
    rw [List.drop_of_length_le (by rw [List.length_map,List.length_take]; omega)]
    rfl
  | ms r f es hr h1 h2 h3 h4 h5 =>
    refine ⟨.ms 3 r (0 + 0) (i - 0) true,fun m h' env u v hu hv => ?_,.ms r es hr (by rw [ht]; rfl) h2 (by rw [ht,← h3,List.take_take,Nat.min_eq_left (by omega)]) (by rw [ht]; omega),fun q hq => ?_⟩
    · rw [h1]
      show ifR (Nat.beq 3 3) (natR (fun b => natR (fun c => slM3 m h' 3 r 0 l.length 0 b c) (ev env v)) (ev env u)) = _
      rw [hu,hv]
      show ifR (Nat.beq 3 3) (ifR (Bool.and (Nat.ble 0 i) (Bool.and (Nat.beq i i) (Nat.ble i l.length))) (.ok (.ms 3 r (0 + 0) (i - 0) true) m h')) = _
      rw [ble_iff,ble_iff,decide_eq_true (Nat.zero_le _),decide_eq_true (by omega),show Nat.beq i i = true from Nat.beq_refl _]; rfl
    · show memN q [r] = false
      rw [memN_cons,memN_nil,Bool.or_false]
      refine decide_eq_false (fun e => ?_)
      subst e
      rcases hq with hq | ⟨es',hq⟩ <;> rw [h2] at hq <;> cases hq
theorem Fw.app {n m n0 : Nat} {h h0 : Hps} {d : D} {l : List Pat} (V : Fw n h d l) (H : Hp n0 h0 n h) (hm : n ≤ m) (xs : List Pat) (hs : (l.length + xs.length) * 48 ≤ 140737488355328) :
    ∃ D2 H2,appD m h 3 48 d (.ok 3 (xs.map encP)) = .ok D2 m H2 ∧ Hp n0 h0 (m + 1) H2 ∧ (∀ q,q < n → getO H2 q = getO h q) ∧ ((xs = [] ∧ D2 = d ∧ H2 = h) ∨ (D2 = .ms 3 m 0 (l ++ xs).length false ∧ H2 = (m,.row 3 ((l ++ xs).map encP)) :: h)) := by
  have hd : one d = true := V.rv.ok
  cases xs with
  | nil =>
    refine ⟨d,h,?_,H.mono (by omega),fun _ _ => rfl,.inl ⟨rfl,rfl,rfl⟩⟩
    cases V with
    | sl h1 => rw [h1]; rfl
    | ms r es hr h1 h2 h3 h4 => rw [h1]; rfl
  | cons x xt =>
    refine ⟨.ms 3 m 0 (l ++ (x :: xt)).length false,(m,.row 3 ((l ++ (x :: xt)).map encP)) :: h,?_,H.cons hm (by omega) (fun k _ => lowO_map (fun p => lowP k p)),fun q hq => getO_tl (by omega),.inr ⟨rfl,rfl⟩⟩
    have e : appN1 m h 3 48 ((l.map encP) ++ ((x :: xt).map encP)) = .ok (.ms 3 m 0 (l ++ (x :: xt)).length false) m ((m,.row 3 ((l ++ (x :: xt)).map encP)) :: h) := by
      unfold appN1
      rw [← List.map_append,lenL_eq,List.length_map,ble_iff,show most = 140737488355328 from rfl,decide_eq_true (by rw [List.length_append]; exact hs)]; rfl
    cases V with
    | sl h1 =>
      rw [h1]
      show ifR (Nat.beq 3 3) (ifR (Bool.and true (Nat.beq 3 3)) (appN1 m h 3 48 (appL (l.map encP) ((x :: xt).map encP)))) = _
      rw [appL_eq,e]; rfl
    | ms r es hr h1 h2 h3 h4 =>
      rw [h1]
      show ifR (Nat.beq 3 3) (ifR (Nat.beq 3 3) (appR m h 3 48 r 0 l.length true ((x :: xt).map encP) (getO h r))) = _
      rw [h2]
      show ifR (Nat.beq 3 3) (ifR (Nat.beq 3 3) (ifR (Nat.ble (0 + l.length) (lenL (es.map encP))) (appN1 m h 3 48 (appL (takeL l.length (dropL 0 (es.map encP))) ((x :: xt).map encP))))) = _
      rw [lenL_eq,List.length_map,ble_iff,decide_eq_true (by omega),takeL_eq,dropL_eq,List.drop_zero,← List.map_take,h3,appL_eq,e]; rfl
theorem Fw.app2 {n m m' n0 : Nat} {h h0 : Hps} {d : D} {l : List Pat} (V : Fw n h d l) (H : Hp n0 h0 n h) (hm : n ≤ m) (hmm : m < m') (xs ys : List Pat) (hs : (l.length + xs.length + ys.length) * 48 ≤ 140737488355328) :
    ∃ D2 H2 D4 H4,appD m h 3 48 d (.ok 3 (xs.map encP)) = .ok D2 m H2 ∧ (∀ q,q < n → getO H2 q = getO h q) ∧ appD m' H2 3 48 D2 (.ok 3 (ys.map encP)) = .ok D4 m' H4 ∧ Hp n0 h0 (m' + 1) H4 ∧ (∀ q,q < n → getO H4 q = getO h q) ∧ Rv true (m' + 1) H4 D4 (l ++ xs ++ ys) := by
  obtain ⟨D2,H2,a1,a2,a3,a4⟩ := V.app H hm xs (by omega)
  rcases a4 with ⟨rfl,rfl,rfl⟩ | ⟨e1,e2⟩
  · obtain ⟨D4,H4,c1,c2,c3,c4⟩ := V.app H (m := m') (by omega) ys (by simp at hs; omega)
    refine ⟨_,_,D4,H4,a1,a3,c1,c2,c3,?_⟩
    rw [List.append_nil]
    rcases c4 with ⟨rfl,rfl,rfl⟩ | ⟨e1,e2⟩
    · rw [List.append_nil]
      exact V.rv.keep (by omega) (fun _ _ _ _ => rfl)
    · rw [e1,e2]
      exact .ms m' false (l ++ ys) (by omega) rfl getO_hd List.take_length (Nat.le_refl _) (.inl rfl)
  · subst e1 e2
    refine ⟨.ms 3 m 0 (l ++ xs).length false,(m,.row 3 ((l ++ xs).map encP)) :: h,?_⟩
    cases ys with
    | nil =>
      refine ⟨.ms 3 m 0 (l ++ xs).length false,(m,.row 3 ((l ++ xs).map encP)) :: h,a1,a3,rfl,a2.mono (by omega),a3,?_⟩
      rw [List.append_nil]
      exact .ms m false (l ++ xs) (by omega) rfl getO_hd List.take_length (Nat.le_refl _) (.inl rfl)
    | cons y yt =>
      refine ⟨.ms 3 m' 0 (l ++ xs ++ (y :: yt)).length false,(m',.row 3 ((l ++ xs ++ (y :: yt)).map encP)) :: h,a1,a3,?_,H.cons (by omega) (by omega) (fun k _ => lowO_map (fun p => lowP k p)),fun q hq => getO_tl (by omega),.ms m' false (l ++ xs ++ (y :: yt)) (by omega) rfl getO_hd List.take_length (Nat.le_refl _) (.inl rfl)⟩
      have e := appD_ms (n := m') (h := (m,.row 3 ((l ++ xs).map encP)) :: h) (b := 48) (q := 3) (r := m) (m := (l ++ xs).length) (xs := (y :: yt).map encP) (x := encP y) (xt := yt.map encP) rfl getO_hd (by rw [List.length_map]) (by rw [List.length_map,List.length_map,List.length_append]; exact hs)
      rw [e,delO_hd,delO_low (H.good n (Nat.le_refl _)) hm,← List.map_append]
      congr 2
      simp
      omega
end Go.Proofs.YtknnbjoagigmgaaGreat
