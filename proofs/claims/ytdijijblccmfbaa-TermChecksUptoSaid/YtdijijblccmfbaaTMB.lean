/- The program's ways to lift a term, to put one in for a variable, and to copy: the functions that its map asks. No condition but sizes. -/
import Derived.Test.YtdijijblccmfbaaTMA
set_option linter.unusedSimpArgs false
set_option linter.unusedVariables false
namespace Go.Proofs.Ytdijijblccmfbaa
open Go

def varT (n : Int) : Tm := .mk 1 n false [] (Sl.app []) true false [] []
theorem enc_var (n : Int) : encT (varT n) = .agg [.int .i64 1,.int .i64 n,.bool false,.str [],.nils,.nils] := by rw [encT_eq]; rfl
def gC : Does := fun _ _ _ => none
def gL (a b : Int) : Does := fun t d L => if t.form = 1 ∧ a + d ≤ t.n then some (varT (t.n + b),L) else none
def gS (p : Int) (s : Tm) : Does := fun t d L => if t.form ≠ 1 ∨ t.n < p + d then none else if p + d < t.n then some (varT (t.n - 1),L) else some (runM (gL 0 d) s 0 L)
theorem steadyC : Steady gC 0 := ⟨by omega,fun t d L x h => by cases h⟩
theorem steadyL (a b : Int) : Steady (gL a b) 0 := ⟨by omega,fun t d L x h => by
  unfold gL at h
  by_cases e : t.form = 1 ∧ a + d ≤ t.n
  · rw [if_pos e] at h; cases h; show L - 0 ≤ L ∧ L ≤ L; omega
  · rw [if_neg e] at h; cases h⟩
theorem steadyS (p : Int) (s : Tm) : Steady (gS p s) (sizeT s.abs) := ⟨by omega,fun t d L x h => by
  unfold gS at h
  by_cases e : t.form ≠ 1 ∨ t.n < p + d
  · rw [if_pos e] at h; cases h
  · rw [if_neg e] at h
    by_cases e2 : p + d < t.n
    · rw [if_pos e2] at h; cases h; show L - _ ≤ L ∧ L ≤ L; omega
    · rw [if_neg e2] at h
      cases h
      have := runM_low (steadyL 0 d) s 0 L
      simpa using this⟩

section
variable (n : Nat) (h : Hps) (hg : Gd n h)
include hg
theorem dC (t : Tm) (d : Int) : callFn (LX (cF Try.prog)) n h [(D.agg [.int .i64 (t).form,.int .i64 (t).n,.bool (t).hid,.str (t).name,slD 2 encL (t).levels,slD 6 encT (t).kids]),.int .i64 d] (cF Try.prog 93) = .ok (.tup [(D.agg [.int .i64 0,.int .i64 0,.bool false,.str [],.nils,.nils]),.bool false]) n h := by
  have hgn := hg n (Nat.le_refl _)
  rw [f93_eq]; unfold c93; rw [callFn_eq (by rfl)]
  simp (disch:=first|assumption|omega|(simp (disch:=first|assumption|omega) only [sB,Nat.reduceAdd,Nat.reduceLT,Nat.reduceLeDiff,Nat.reduceEqDiff,Nat.reduceMul,↓reduceIte];done)|fail) only [sA,↓reduceIte,Nat.reduceLT,Nat.reduceEqDiff,Nat.reduceAdd,Nat.reduceLeDiff]
theorem dL (a b : Int) (t : Tm) (d : Int) (ha : 0 ≤ a ∧ a ≤ 10000000) (hb : 0 ≤ b ∧ b ≤ 10000000) (hd : 0 ≤ d ∧ d ≤ 10000000) (ht : t.form = 1 → 0 ≤ t.n ∧ t.n ≤ 100000000000) :
    callFn (LX (cF Try.prog)) n h [.agg [.int .i64 a,.int .i64 b],(D.agg [.int .i64 (t).form,.int .i64 (t).n,.bool (t).hid,.str (t).name,slD 2 encL (t).levels,slD 6 encT (t).kids]),.int .i64 d] (cF Try.prog 94) = .ok (if t.form = 1 ∧ a + d ≤ t.n then .tup [encT (varT (t.n + b)),.bool true] else .tup [(D.agg [.int .i64 0,.int .i64 0,.bool false,.str [],.nils,.nils]),.bool false]) n h := by
  have hgn := hg n (Nat.le_refl _)
  have hG : ∀ m,n ≤ m → Gd m h := fun m hm => Gd.mono hg hm
  have c1 : ∀ m h x,Gd m h → callFn (LX (cF Try.prog)) m h [.int .i64 x] (cF Try.prog 120) = .ok (.agg [.int .i64 1,.int .i64 x,.bool false,.str [],.nils,.nils]) m h := fun m h x hg => pVar m h hg x
  have gd2 : ∀ {m r k : Nat} {x y : Int} {g : Hps},r < m → Gd m ((r,.row k [.agg [.int .i64 x,.int .i64 y]]) :: g) = Gd m g := fun hr => gd_flat rfl hr
  rw [enc_var]
  generalize hf : t.form = f at *
  rw [f94_eq]; unfold c94; rw [callFn_eq (by rfl)]
  by_cases h1 : f = 1
  · subst h1
    have ht' := ht rfl
    by_cases h2 : a + d ≤ t.n
    · rw [if_pos ⟨rfl,h2⟩]
      have h2' : decide (a + d ≤ t.n) = true := decide_eq_true h2
      simp (disch:=first|assumption|omega|(simp (disch:=first|assumption|omega) only [sB,Nat.reduceAdd,Nat.reduceLT,Nat.reduceLeDiff,Nat.reduceEqDiff,Nat.reduceMul,↓reduceIte,hG,gd_tmf,gd_zt,gd2];done)|fail) only [sA,↓reduceIte,Nat.reduceLT,Nat.reduceEqDiff,Nat.reduceAdd,Nat.reduceLeDiff,hf,h2',c1,hG,gd_tmf,gd_zt,gd2]
    · rw [if_neg (fun hh => h2 hh.2)]
      have h2' : decide (a + d ≤ t.n) = false := decide_eq_false h2
      simp (disch:=first|assumption|omega|(simp (disch:=first|assumption|omega) only [sB,Nat.reduceAdd,Nat.reduceLT,Nat.reduceLeDiff,Nat.reduceEqDiff,Nat.reduceMul,↓reduceIte,hG,gd_tmf,gd_zt,gd2];done)|fail) only [sA,↓reduceIte,Nat.reduceLT,Nat.reduceEqDiff,Nat.reduceAdd,Nat.reduceLeDiff,hf,h2',c1,hG,gd_tmf,gd_zt,gd2]
  · rw [if_neg (fun hh => h1 hh.1)]
    simp (disch:=first|assumption|omega|(simp (disch:=first|assumption|omega) only [sB,Nat.reduceAdd,Nat.reduceLT,Nat.reduceLeDiff,Nat.reduceEqDiff,Nat.reduceMul,↓reduceIte,hG,gd_tmf,gd_zt,gd2];done)|fail) only [sA,↓reduceIte,Nat.reduceLT,Nat.reduceEqDiff,Nat.reduceAdd,Nat.reduceLeDiff,hf,h1,c1,hG,gd_tmf,gd_zt,gd2]
end
theorem doesC {r : Nat} : DoesOk (.fn 93 [] []) r gC 0 := fun t _ d L _ _ _ _ n h hg _ _ => ⟨fun _ => by rw [callX_fn]; exact dC n h hg t d,fun x hx => (by cases hx)⟩
theorem doesL {r : Nat} {a b : Int} (ha : 0 ≤ a ∧ a ≤ 10000000) (hb : 0 ≤ b ∧ b ≤ 10000000) : DoesOk (.fn 94 [.agg [.int .i64 a,.int .i64 b]] []) r (gL a b) 0 := fun t ht d L hd1 hd2 _ _ n h hg _ hb' => by
  have e := dL n h hg a b t d ha hb ⟨hd1,by omega⟩ (slim_tm ht).2.1
  rw [callX_fn]
  unfold gL
  by_cases hc : t.form = 1 ∧ a + d ≤ t.n
  · rw [if_pos hc] at e ⊢
    exact ⟨fun h => (by cases h),fun x hx => by cases hx; exact ⟨h,e,Cnt.refl hb'⟩⟩
  · rw [if_neg hc] at e ⊢
    exact ⟨fun _ => e,fun x hx => by cases hx⟩
theorem low_put {m r : Nat} {p : Int} {s : Tm} (hr : r < m) : low m (.agg [.int .i64 p,.int .i64 s.form,.int .i64 s.n,.bool s.hid,.str s.name,slD 2 encL s.levels,slD 6 encT s.kids,.ptr r 0 0]) := low_agg (fun x hx => by
  rcases List.mem_cons.1 hx with rfl | hx
  · rfl
  rcases List.mem_cons.1 hx with rfl | hx
  · rfl
  rcases List.mem_cons.1 hx with rfl | hx
  · rfl
  rcases List.mem_cons.1 hx with rfl | hx
  · rfl
  rcases List.mem_cons.1 hx with rfl | hx
  · rfl
  rcases List.mem_cons.1 hx with rfl | hx
  · exact (plain1 18 flat1_slD).hasR m
  rcases List.mem_cons.1 hx with rfl | hx
  · exact (plain1 18 flat1_slD).hasR m
  · rw [List.mem_singleton.1 hx]; exact ble_f hr)
set_option maxHeartbeats 4000000 in
theorem doesS {r : Nat} {p : Int} {s : Tm} (hp : 0 ≤ p ∧ p ≤ 10000000000000) (hs : slimT s.abs = true) (hsz : sizeT s.abs ≤ 100000) (hsh : highT s.abs ≤ 100000) : DoesOk (.fn 111 [.agg [.int .i64 p,.int .i64 s.form,.int .i64 s.n,.bool s.hid,.str s.name,slD 2 encL s.levels,slD 6 encT s.kids,.ptr r 0 0]] []) r (gS p s) (sizeT s.abs) := fun t ht d L hd1 hd2 hL1 hL2 n h hg hr hb => by
  rw [callX_fn]
  show (_ → callFn (LX (cF Try.prog)) n h [.agg [.int .i64 p,.int .i64 s.form,.int .i64 s.n,.bool s.hid,.str s.name,slD 2 encL s.levels,slD 6 encT s.kids,.ptr r 0 0],(D.agg [.int .i64 (t).form,.int .i64 (t).n,.bool (t).hid,.str (t).name,slD 2 encL (t).levels,slD 6 encT (t).kids]),.int .i64 d] _ = _) ∧ ∀ x,_ → ∃ h',callFn (LX (cF Try.prog)) n h [.agg [.int .i64 p,.int .i64 s.form,.int .i64 s.n,.bool s.hid,.str s.name,slD 2 encL s.levels,slD 6 encT s.kids,.ptr r 0 0],(D.agg [.int .i64 (t).form,.int .i64 (t).n,.bool (t).hid,.str (t).name,slD 2 encL (t).levels,slD 6 encT (t).kids]),.int .i64 d] _ = _ ∧ _
  have hgn := hg n (Nat.le_refl _)
  have hnv := (slim_tm ht).2.1
  have hG : ∀ m,n ≤ m → Gd m h := fun m hm => Gd.mono hg hm
  have c1 : ∀ m h x,Gd m h → callFn (LX (cF Try.prog)) m h [.int .i64 x] (cF Try.prog 120) = .ok (.agg [.int .i64 1,.int .i64 x,.bool false,.str [],.nils,.nils]) m h := fun m h x hg => pVar m h hg x
  have gd8 : ∀ {m q : Nat} {g : Hps},q < m → n ≤ m → Gd m ((q,.row 8 [.agg [.int .i64 p,.int .i64 s.form,.int .i64 s.n,.bool s.hid,.str s.name,slD 2 encL s.levels,slD 6 encT s.kids,.ptr r 0 0]]) :: g) = Gd m g := fun {m q g} hq hn => propext ⟨fun H k hk => (good_cons.1 (H k hk)).2.2,fun H k hk => good_cons.2 ⟨by omega,lowO_one (low_put (by omega)),H k hk⟩⟩
  have H1 : ∀ hx,Gd n hx → Hp n hx (n + 3) ((n + 2,(Ob.row 6 [.agg [.int .i64 0,.int .i64 0,.bool false,.str [],.nils,.nils]])) :: (n + 1,(Ob.row 6 [.agg [.int .i64 (t).form,.int .i64 (t).n,.bool (t).hid,.str (t).name,slD 2 encL (t).levels,slD 6 encT (t).kids]])) :: (n,.row 8 [.agg [.int .i64 p,.int .i64 s.form,.int .i64 s.n,.bool s.hid,.str s.name,slD 2 encL s.levels,slD 6 encT s.kids,.ptr r 0 0]]) :: hx) := fun hx gx => ((((Hp.start gx).cons (r := n) (m := n + 1) (Nat.le_refl _) (by omega) (fun k hk => lowO_one (low_put (by omega)))).box (r := n + 1) (m := n + 2) (by omega) (by omega) (flatTA t)).box (r := n + 2) (m := n + 3) (by omega) (by omega) rfl)
  unfold gS
  by_cases h1 : t.form ≠ 1 ∨ t.n < p + d
  · rw [if_pos h1]
    refine ⟨fun _ => ?_,fun x hx => by cases hx⟩
    generalize hf : t.form = f at *
    by_cases h2 : f = 1
    · subst h2
      have h3 : decide (t.n < p + d) = true := decide_eq_true (h1.resolve_left (fun h => h rfl))
      have := hnv rfl
      rw [f111_eq]; unfold c111; rw [callFn_eq (by rfl)]
      simp (disch:=first|assumption|omega|(simp (disch:=first|assumption|omega) only [sB,Nat.reduceAdd,Nat.reduceLT,Nat.reduceLeDiff,Nat.reduceEqDiff,Nat.reduceMul,↓reduceIte];done)|fail) only [sA,↓reduceIte,Nat.reduceLT,Nat.reduceEqDiff,Nat.reduceAdd,Nat.reduceLeDiff,hf,h3]
    · rw [f111_eq]; unfold c111; rw [callFn_eq (by rfl)]
      simp (disch:=first|assumption|omega|(simp (disch:=first|assumption|omega) only [sB,Nat.reduceAdd,Nat.reduceLT,Nat.reduceLeDiff,Nat.reduceEqDiff,Nat.reduceMul,↓reduceIte];done)|fail) only [sA,↓reduceIte,Nat.reduceLT,Nat.reduceEqDiff,Nat.reduceAdd,Nat.reduceLeDiff,hf,h2]
  · rw [if_neg h1]
    have hf : t.form = 1 := by omega
    have hn := hnv hf
    have h3 : ¬ t.n < p + d := by omega
    have h3' := decide_eq_false h3
    by_cases h4 : p + d < t.n
    · rw [if_pos h4]
      have h4' := decide_eq_true h4
      refine ⟨fun h => (by cases h),fun x hx => ?_⟩
      cases hx
      refine ⟨h,?_,Cnt.refl hb⟩
      show _ = Rd.ok (.tup [encT (varT (t.n - 1)),.bool true]) n h
      rw [enc_var]
      rw [f111_eq]; unfold c111; rw [callFn_eq (by rfl)]
      simp (disch:=first|assumption|omega|(simp (disch:=first|assumption|omega) only [sB,Nat.reduceAdd,Nat.reduceLT,Nat.reduceLeDiff,Nat.reduceEqDiff,Nat.reduceMul,↓reduceIte,hG,gd_tmf,gd_zt,gd8];done)|fail) only [sA,↓reduceIte,Nat.reduceLT,Nat.reduceEqDiff,Nat.reduceAdd,Nat.reduceLeDiff,hf,h3',h4',c1,hG,gd_tmf,gd_zt,gd8]
    · rw [if_neg h4]
      have h4' := decide_eq_false h4
      refine ⟨fun h => (by cases h),fun x hx => ?_⟩
      cases hx
      have H1' := H1
      rw [hf] at H1'
      obtain ⟨h2,e2,U2⟩ := mapRun (r := r) (steadyL 0 d) (by omega) (c := .fn 94 [.agg [.int .i64 0,.int .i64 d]] []) (.inl rfl) rfl (doesL (by omega) (by omega)) s hs 0 L (Int.le_refl _) (by omega) (by omega) (by omega) (n + 33) ((n + 2,(Ob.row 6 [.agg [.int .i64 0,.int .i64 0,.bool false,.str [],.nils,.nils]])) :: (n + 1,.row 6 [.agg [.int .i64 1,.int .i64 t.n,.bool t.hid,.str t.name,slD 2 encL t.levels,slD 6 encT t.kids]]) :: (n,.row 8 [.agg [.int .i64 p,.int .i64 s.form,.int .i64 s.n,.bool s.hid,.str s.name,slD 2 encL s.levels,slD 6 encT s.kids,.ptr r 0 0]]) :: h) (fun k hk => (H1' h hg).good k (by omega)) (by omega) (by rw [getO_tl (by omega),getO_tl (by omega),getO_tl (by omega)]; exact hb)
      have w1 : getO h2 (n + 2) = (Ob.row 6 [.agg [.int .i64 0,.int .i64 0,.bool false,.str [],.nils,.nils]]) := by rw [U2.get (by omega),getO_hd]
      have w2 : ∀ X,getO (setO h2 (n + 2) X) (n + 2) = X := fun X => getO_setO_same (by rw [w1]; simp)
      obtain ⟨hb1,H2,V2⟩ := Cnt.hp ((H1' h hg).mono (show n + 3 ≤ n + 33 by omega)) U2 hr
      refine ⟨hb1,?_,V2⟩
      generalize runM (gL 0 d) s 0 L = X at e2 ⊢
      show _ = Rd.ok (.tup [encT X.1,.bool true]) n hb1
      rw [encT_eq] at e2 ⊢
      rw [f111_eq]; unfold c111; rw [callFn_eq (by rfl)]
      simp (disch:=first|assumption|omega|(simp (disch:=first|assumption|omega) only [sB,Nat.reduceAdd,Nat.reduceLT,Nat.reduceLeDiff,Nat.reduceEqDiff,Nat.reduceMul,↓reduceIte,hG,gd_tmf,gd_zt,gd8];done)|fail) only [sA,↓reduceIte,Nat.reduceLT,Nat.reduceEqDiff,Nat.reduceAdd,Nat.reduceLeDiff,hf,h3',h4',c1,e2,w1,w2,hG,gd_tmf,gd_zt,gd8]
      refine finish_flat ?_ ((H2.set (r := n + 2) (by omega) (fun k hk => lowO_one (low_flat (flatTA _)))).mono (by omega))
      rw [flat_tup,List.all_cons,List.all_cons,List.all_nil]
      rw [← encT_eq,elemT.flat]
      rfl
end Go.Proofs.Ytdijijblccmfbaa
