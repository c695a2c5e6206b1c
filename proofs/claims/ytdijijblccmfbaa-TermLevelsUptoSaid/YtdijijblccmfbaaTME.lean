/- The program's Lift and Subst of terms. No condition but sizes. -/
import Derived.Test.YtdijijblccmfbaaTMA
import Derived.Test.YtdijijblccmfbaaTJ
set_option linter.unusedSimpArgs false
set_option linter.unusedVariables false
namespace Go.Proofs.Ytdijijblccmfbaa
open Go
open Nat (reduceAdd reduceLT reduceLeDiff reduceEqDiff reduceMul)

def varT (n : Int) : Tm := .mk 1 n false [] (Sl.app []) true false [] []
theorem enc_var (n : Int) : encT (varT n) = .agg [.int .i64 1,.int .i64 n,.bool false,.str [],.nils,.nils] := by rw [encT_eq]; rfl
def gC : Does := fun _ _ _ => none
def gL (a b : Int) : Does := fun t d L => if t.form = 1 ∧ a + d ≤ t.n then some (varT (t.n + b),L) else none
def gS (p : Int) (s : Tm) : Does := fun t d L => if t.form ≠ 1 ∨ t.n < p + d then none else if p + d < t.n then some (varT (t.n - 1),L) else some (runM (gL 0 d) s 0 L)
section
variable (n : Nat) (h : Hps) (hg : Gd n h)
include hg
theorem dL (a b : Int) (t : Tm) (d : Int) (ha : 0 ≤ a ∧ a ≤ 10000000) (hb : 0 ≤ b ∧ b ≤ 10000000) (hd : 0 ≤ d ∧ d ≤ 10000000) (ht : t.form = 1 → 0 ≤ t.n ∧ t.n ≤ 100000000000) :
    callFn (LX (cF Try.prog)) n h [.agg [.int .i64 a,.int .i64 b],(D.agg [.int .i64 (t).form,.int .i64 (t).n,.bool (t).hid,.str (t).name,slD 2 encL (t).levels,slD 6 encT (t).kids]),.int .i64 d] (cF Try.prog 94) = .ok (if t.form = 1 ∧ a + d ≤ t.n then .tup [encT (varT (t.n + b)),.bool true] else .tup [(D.agg [.int .i64 0,.int .i64 0,.bool false,.str [],.nils,.nils]),.bool false]) n h := by
  have hgn := hg n (Nat.le_refl _)
  have hG : ∀ m,n ≤ m → Gd m h := fun m hm => Gd.mono hg hm
  have c1 : ∀ m h x,Gd m h → callFn (LX (cF Try.prog)) m h [.int .i64 x] (cF Try.prog 120) = .ok (.agg [.int .i64 1,.int .i64 x,.bool false,.str [],.nils,.nils]) m h := fun m h x hg => pVar m h hg x
  have gd2 : ∀ {m r k : Nat} {x y : Int} {g : Hps},r < m → Gd m ((r,.row k [.agg [.int .i64 x,.int .i64 y]]) :: g) = Gd m g := fun hr => gd_flat rfl hr
  rw [enc_var]
  generalize hf : t.form = f at *
  rw [f94_eq]; unfold c94; rw [callFn_eq (by rfl)]
  by_cases h1 : f = 1
  · subst h1
    have ht' := ht rfl
    by_cases h2 : a + d ≤ t.n
    · rw [if_pos ⟨rfl,h2⟩]
      have h2' : decide (a + d ≤ t.n) = true := decide_eq_true h2
      simp (disch:=first|assumption|omega|(simp (disch:=first|assumption|omega) only [sB,reduceAdd,reduceLT,reduceLeDiff,reduceEqDiff,reduceMul,↓reduceIte,hG,gd_tmf,gd_zt,gd2];done)|fail) only [sA,↓reduceIte,reduceLT,reduceEqDiff,reduceAdd,reduceLeDiff,hf,h2',c1,hG,gd_tmf,gd_zt,gd2]
    · rw [if_neg (fun hh => h2 hh.2)]
      have h2' : decide (a + d ≤ t.n) = false := decide_eq_false h2
      simp (disch:=first|assumption|omega|(simp (disch:=first|assumption|omega) only [sB,reduceAdd,reduceLT,reduceLeDiff,reduceEqDiff,reduceMul,↓reduceIte,hG,gd_tmf,gd_zt,gd2];done)|fail) only [sA,↓reduceIte,reduceLT,reduceEqDiff,reduceAdd,reduceLeDiff,hf,h2',c1,hG,gd_tmf,gd_zt,gd2]
  · rw [if_neg (fun hh => h1 hh.1)]
    simp (disch:=first|assumption|omega|(simp (disch:=first|assumption|omega) only [sB,reduceAdd,reduceLT,reduceLeDiff,reduceEqDiff,reduceMul,↓reduceIte,hG,gd_tmf,gd_zt,gd2];done)|fail) only [sA,↓reduceIte,reduceLT,reduceEqDiff,reduceAdd,reduceLeDiff,hf,h1,c1,hG,gd_tmf,gd_zt,gd2]
end
end Go.Proofs.Ytdijijblccmfbaa
set_option linter.unusedSimpArgs false
set_option linter.unusedVariables false
namespace Go.Proofs.Ytdijijblccmfbaa
open Go
open Nat (reduceAdd reduceLT reduceLeDiff reduceEqDiff reduceMul)

theorem pureC_new {m n q k : Nat} {h : Hps} {x : Int} (hq : n + 1 ≤ q) : pureC [] n h (.fn k [] []) [] (.ok (.ptr q 0 0) m [(q,.row 1 [.int .i64 x])]) = .ok (.ptr q 0 0) m ((q,.row 1 [.int .i64 x]) :: h) := by
  have e : Nat.ble (n + 1) q = true := by rw [ble_iff,decide_eq_true hq]
  show ifR (Bool.and true (Bool.and true (Bool.and true (Bool.and true (Bool.and (Bool.or (Nat.ble (n + 1) q) false) (Bool.and (Bool.or (Nat.ble (n + 1) q) false) true)))))) _ = _
  rw [e]; rfl
theorem pNone (n : Nat) : callFn (LX (cF Try.prog)) n [] [] (cF Try.prog 92) = .ok (.ptr (n + 1) 0 0) (n + 4) [(n + 1,.row 1 [.int .i64 1099511627776])] := by
  rw [f92_eq]; unfold c92; rw [callFn_eq (by rfl)]
  simp (disch:=first|assumption|omega|(simp (disch:=first|assumption|omega) only [sB,reduceAdd,reduceLT,reduceLeDiff,reduceEqDiff,reduceMul,↓reduceIte];done)|fail) only [sA,↓reduceIte,reduceLT,reduceEqDiff,reduceAdd,reduceLeDiff]
  have e : hasP n 20 (.ptr (n + 1) 0 0) = true := by
    show Nat.ble n (n + 1) = true
    rw [ble_iff,decide_eq_true (by omega)]
  unfold finishD
  rw [e]
  rfl
theorem keys_new {m q : Nat} {o : Ob} {h : Hps} (hq : m ≤ q) : keysFrom m ((q,o) :: h) = q :: keysFrom m h := by
  show Bool.rec (motive := fun _ => List Nat) (keysFrom m h) (q :: keysFrom m h) (Nat.ble m q) = _
  rw [ble_iff,decide_eq_true hq]
end Go.Proofs.Ytdijijblccmfbaa
set_option linter.unusedSimpArgs false
set_option linter.unusedVariables false
namespace Go.Proofs.Ytdijijblccmfbaa
open Go
open Nat (reduceAdd reduceLT reduceLeDiff reduceEqDiff reduceMul)

def mapI (F : Trm → Int → Trm) (f : Int) : Nat → List Trm → Int → List Trm
  | _,[],_ => []
  | i,k :: t,d => F k (undr f i d) :: mapI F f (i + 1) t d
def tidyT (t : Trm) (ks : List Trm) : Trm := .mk t.form (if t.form = 1 ∨ t.form = 11 then t.n else 0) (if t.form = 3 ∨ t.form = 4 ∨ t.form = 5 then t.hid else false) (if t.form = 10 then t.name else []) (if t.form = 2 ∨ t.form = 10 then t.levels else []) ks
theorem bare_abs (t : Tm) (ks : List Tm) : (bareT t ks).abs = tidyT t.abs (ks.map Tm.abs) := by
  unfold tidyT
  rw [abs_form,abs_n,abs_hid,abs_name,abs_levels,abs_eq]
  have e : ((if t.form = 2 ∨ t.form = 10 then Sl.app (t.levels.el.map cloneL) else Sl.app []).el.map SLev.lev) = (if t.form = 2 ∨ t.form = 10 then t.levels.el.map SLev.lev else []) := by
    split
    · rw [app_el,List.map_map]
      exact List.map_congr_left (fun x _ => cloneL_lev x)
    · rfl
  rw [← e]
  rfl
theorem clean_tidy (t : Trm) : cleanT t = tidyT t (t.kids.map cleanT) := by
  obtain ⟨f,n,h,nm,ls,ks⟩ := t
  rw [clean_eq]; rfl
def fewT (t : Trm) : Bool := allT (fun t => decide (t.levels.length ≤ 1000000000)) t
theorem few_eq (t : Trm) : fewT t = true ↔ t.levels.length ≤ 1000000000 ∧ ∀ k,k ∈ t.kids → fewT k = true := by
  show allT _ t = true ↔ _
  rw [allT_eq,allTs_eq,Bool.and_eq_true,decide_eq_true_iff,List.all_eq_true]
  rfl
theorem kidsN_le (f : Int) : kidsN f ≤ 3 := by
  unfold kidsN
  repeat' split
  all_goals omega
theorem slim_of : ∀ t : Trm,formedT t = true → fewT t = true → slimT t = true := by
  refine Trm.ind ?_
  intro t ih hf hw
  rw [formedT_eq,Bool.and_eq_true,List.all_eq_true] at hf
  obtain ⟨w1,w2⟩ := (few_eq t).1 hw
  have hl := part_len hf.1
  have h3 := kidsN_le t.form
  rw [slim_eq,Bool.and_eq_true,List.all_eq_true]
  refine ⟨?_,fun k hk => ih k hk (hf.2 k hk) (w2 k hk)⟩
  have hp := hf.1
  unfold partOk at hp
  rw [Bool.and_eq_true] at hp
  have hc : ∀ l : List Lev,l.all Lev.canon = true → (l.all fun x => decide (x.v.length ≤ 1000000000)) = true := fun l h => by
    rw [List.all_eq_true] at h ⊢
    intro x hx
    have := h x hx
    unfold Lev.canon at this
    rw [Bool.and_eq_true] at this
    have := (right_iff.1 this.1).2.1
    exact decide_eq_true (by omega)
  rw [decide_eq_true (show t.kids.length ≤ 1000000 by omega),Bool.true_and]
  by_cases e1 : t.form = 1
  · rw [if_pos (.inl e1)] at hp
    have := of_decide_eq_true hp.2
    rw [e1]
    simp
    omega
  · rw [decide_eq_false e1]
    by_cases e2 : t.form = 2
    · rw [if_neg (by omega),if_neg (by omega),if_pos e2,Bool.and_eq_true] at hp
      simp only [hc _ hp.2.2,w1]
      simp
    · by_cases e10 : t.form = 10
      · rw [if_neg (by omega),if_neg (by omega),if_neg e2,if_pos e10,Bool.and_eq_true] at hp
        simp only [hc _ hp.2.2,w1]
        simp
      · rw [decide_eq_false (show ¬ (t.form = 2 ∨ t.form = 10) by omega)]
        rfl
theorem sane_zero : saneT zeroT.abs = true := by decide
end Go.Proofs.Ytdijijblccmfbaa
set_option linter.unusedSimpArgs false
set_option linter.unusedVariables false
namespace Go.Proofs.Ytdijijblccmfbaa
open Go
open Nat (reduceAdd reduceLT reduceLeDiff reduceEqDiff reduceMul)

theorem flatP {X : D} {e : Int} (hX : flat2 X = true) : flat (.tup [X,.int .i64 e]) = true := by
  rw [flat_tup,List.all_cons,List.all_cons,List.all_nil,hX]; rfl
theorem fin_pair {n m : Nat} {h : Hps} {X Y Z : D} {e : Int} (hg : Gd n h) (hX : flat2 X = true) (hY : flat Y = true) (hZ : flat Z = true) (hm : n + 2 ≤ m) : finishD n m ((n + 1,.row 6 [Y]) :: (n,.row 6 [Z]) :: h) (.tup [X,.int .i64 e]) = .ok (.tup [X,.int .i64 e]) n h :=
  finish_flat (flatP hX) ((((Hp.start hg).box (r := n) (m := n + 1) (Nat.le_refl _) (by omega) hZ).box (r := n + 1) (m := n + 2) (by omega) (by omega) hY).mono hm)
theorem flat2T (t : Tm) : flat2 (D.agg [.int .i64 (t).form,.int .i64 (t).n,.bool (t).hid,.str (t).name,slD 2 encL (t).levels,slD 6 encT (t).kids]) = true := by rw [← encT_eq]; exact elemT.flat t
theorem good_parts {t : Trm} (h : checkT t = 0) : formedT t = true ∧ sizeT t ≤ 20000 ∧ highT t ≤ 500 := by
  have h1 := check_ok.1 h
  unfold goodT fitsT at h1
  rw [Bool.and_eq_true,decide_eq_true_iff] at h1
  exact ⟨h1.2,h1.1⟩
def LiftIs (t : Tm) (a b : Int) (t' : Tm) (e : Int) : Prop := (e = 0 ∧ checkT t.abs = 0 ∧ t'.abs = rlift b (cleanT t.abs) a ∧ checkT t'.abs = 0) ∨ (e ≠ 0 ∧ e = checkT t.abs ∧ t' = zeroT) ∨ (checkT t.abs = 0 ∧ e = 2 ∧ t' = zeroT)
def SubIs (t : Tm) (p : Int) (s t' : Tm) (e : Int) : Prop := (e = 0 ∧ checkT t.abs = 0 ∧ checkT s.abs = 0 ∧ t'.abs = rsub p (cleanT s.abs) (cleanT t.abs) 0 ∧ checkT t'.abs = 0) ∨ (e ≠ 0 ∧ t' = zeroT ∧ (e = checkT t.abs ∨ checkT t.abs = 0 ∧ e = checkT s.abs)) ∨ (checkT t.abs = 0 ∧ checkT s.abs = 0 ∧ e = 2 ∧ t' = zeroT)
end Go.Proofs.Ytdijijblccmfbaa
