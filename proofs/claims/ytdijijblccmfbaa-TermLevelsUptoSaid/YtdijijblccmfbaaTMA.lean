/- The program's map over a term, stepped through. No condition but sizes. -/
import Derived.Test.YtdijijblccmfbaaTM
set_option linter.unusedSimpArgs false
set_option linter.unusedVariables false
namespace Go.Proofs.Ytdijijblccmfbaa
open Go

def slimT (t : Trm) : Bool := allT (fun t => decide (t.kids.length ≤ 1000000) && (!decide (t.form = 1) || decide (0 ≤ t.n ∧ t.n ≤ 100000000000)) && (!decide (t.form = 2 ∨ t.form = 10) || (decide (t.levels.length ≤ 1000000000) && t.levels.all fun x => decide (x.v.length ≤ 1000000000)))) t
theorem slim_eq (t : Trm) : slimT t = (decide (t.kids.length ≤ 1000000) && (!decide (t.form = 1) || decide (0 ≤ t.n ∧ t.n ≤ 100000000000)) && (!decide (t.form = 2 ∨ t.form = 10) || (decide (t.levels.length ≤ 1000000000) && t.levels.all fun x => decide (x.v.length ≤ 1000000000))) && t.kids.all slimT) := by
  show allT _ t = _
  rw [allT_eq,allTs_eq]; rfl
theorem slim_tm {t : Tm} (h : slimT t.abs = true) : t.kids.el.length ≤ 1000000 ∧ (t.form = 1 → 0 ≤ t.n ∧ t.n ≤ 100000000000) ∧ thin t ∧ ∀ k,k ∈ t.kids.el → slimT k.abs = true := by
  rw [slim_eq,abs_kids,abs_form,abs_n,abs_levels,List.length_map,List.length_map,List.all_map,List.all_map] at h
  simp only [Bool.and_eq_true,Bool.or_eq_true,decide_eq_true_iff,Bool.not_eq_true',decide_eq_false_iff_not,List.all_eq_true] at h
  obtain ⟨⟨⟨h1,h2⟩,h3⟩,h4⟩ := h
  refine ⟨h1,fun e => h2.resolve_left (fun hh => hh e),fun e => ?_,h4⟩
  obtain ⟨a,b⟩ := h3.resolve_left (fun hh => hh e)
  exact ⟨a,fun x hx => of_decide_eq_true (b x hx)⟩
def DoesOk (c : D) (r : Nat) (g : Does) (M : Int) : Prop := ∀ t : Tm,slimT t.abs = true → ∀ d L : Int,0 ≤ d → d ≤ 1000000 → -1000000000000000 ≤ L - M → L ≤ 10000000000000 → ∀ (n : Nat) (h : Hps),Gd n h → r < n → getO h r = .row 1 [.int .i64 L] →
  (g t d L = none → callX (cF Try.prog) (LX (cF Try.prog)) n h c [(D.agg [.int .i64 (t).form,.int .i64 (t).n,.bool (t).hid,.str (t).name,slD 2 encL (t).levels,slD 6 encT (t).kids]),.int .i64 d] = .ok (.tup [(D.agg [.int .i64 0,.int .i64 0,.bool false,.str [],.nils,.nils]),.bool false]) n h) ∧ ∀ x,g t d L = some x → ∃ h',callX (cF Try.prog) (LX (cF Try.prog)) n h c [(D.agg [.int .i64 (t).form,.int .i64 (t).n,.bool (t).hid,.str (t).name,slD 2 encL (t).levels,slD 6 encT (t).kids]),.int .i64 d] = .ok (.tup [encT x.1,.bool true]) n h' ∧ Cnt r x.2 h h'
theorem enc_zero : encT zeroT = (D.agg [.int .i64 0,.int .i64 0,.bool false,.str [],.nils,.nils]) := by rw [encT_eq]; rfl

theorem elemT : ElemOk 6 encT := ⟨fun c => by rw [encT_eq]; simp [flat2_agg,flat1_slD,flat1_int,flat1_str,show flat1 (.bool c.hid) = true from rfl],fun c => by
  show Bool.and (okF 6 (encT c)) (clo 20 (encT c)) = true
  rw [encT_eq]
  show Bool.and true (allL (clo 19) [.int .i64 c.form,.int .i64 c.n,.bool c.hid,.str c.name,slD 2 encL c.levels,slD 6 encT c.kids]) = true
  rw [allL_eq]
  simp [clo_slD]
  exact ⟨rfl,rfl,rfl,rfl⟩⟩
theorem iaddr_ms {n k r l i : Nat} {h : Hps} {f : Bool} (hi : i < l) : iaddrD n h k (.ms k r 0 l f) i = .ok (.ptr r i 0) n h := by
  show ifR (Bool.and (Nat.blt i l) (Nat.beq k k)) (.ok (.ptr r (0 + i) 0) n h) = _
  rw [blt_iff,decide_eq_true hi,Nat.beq_refl,Nat.zero_add]; rfl
theorem store_tm {m q i : Nat} {h : Hps} {l : List Tm} {x : Tm} (hi : i < l.length) : storeR true 6 q i 0 (D.agg [.int .i64 (x).form,.int .i64 (x).n,.bool (x).hid,.str (x).name,slD 2 encL (x).levels,slD 6 encT (x).kids]) m h (.row 6 (l.map encT)) = .ok .junk m (setO h q (.row 6 ((l.set i x).map encT))) := by
  have e1 : nth (l.map encT) i = encT l[i] := by rw [nth_eq,List.getD_eq_getElem?_getD,List.getElem?_map,List.getElem?_eq_getElem hi]; rfl
  have e2 : setS true 6 0 (encT l[i]) (D.agg [.int .i64 (x).form,.int .i64 (x).n,.bool (x).hid,.str (x).name,slD 2 encL (x).levels,slD 6 encT (x).kids]) = (D.agg [.int .i64 (x).form,.int .i64 (x).n,.bool (x).hid,.str (x).name,slD 2 encL (x).levels,slD 6 encT (x).kids]) := by rw [encT_eq]; rfl
  show storeS q 6 i (l.map encT) m h (setS true 6 0 (nth (l.map encT) i) (D.agg [.int .i64 (x).form,.int .i64 (x).n,.bool (x).hid,.str (x).name,slD 2 encL (x).levels,slD 6 encT (x).kids])) = _
  rw [e1,e2]
  show ifR (Nat.blt i (lenL (l.map encT))) (.ok .junk m (setO h q (.row 6 (put (l.map encT) i (D.agg [.int .i64 (x).form,.int .i64 (x).n,.bool (x).hid,.str (x).name,slD 2 encL (x).levels,slD 6 encT (x).kids]))))) = _
  rw [lenL_eq,List.length_map,blt_iff,decide_eq_true hi,put_eq,← encT_eq,List.map_set]
  rfl
theorem mksl_eq {n k b m : Nat} {h : Hps} {z : D} (hs : m * b ≤ 140737488355328) : mkslD n h k b z m = .ok (.ms k n 0 m false) n ((n,.row k (List.replicate m z)) :: h) := by
  show ifR (Nat.ble (m * b) most) (.ok (.ms k n 0 m false) n ((n,.row k (repL z m)) :: h)) = _
  rw [repL_eq,ble_iff,show most = 140737488355328 from rfl,decide_eq_true hs]
  rfl
theorem low_tms {m q len : Nat} {f a : Int} {b : Bool} {c : List Nat} {s : Sl SLev} (hr : q < m) : low m (.agg [.int .i64 f,.int .i64 a,.bool b,.str c,slD 2 encL s,.ms 6 q 0 len false]) := low_agg (fun x hx => by
  rcases List.mem_cons.1 hx with rfl | hx
  · rfl
  rcases List.mem_cons.1 hx with rfl | hx
  · rfl
  rcases List.mem_cons.1 hx with rfl | hx
  · rfl
  rcases List.mem_cons.1 hx with rfl | hx
  · rfl
  rcases List.mem_cons.1 hx with rfl | hx
  · exact (plain1 18 flat1_slD).hasR m
  · rw [List.mem_singleton.1 hx]; exact ble_f hr)
end Go.Proofs.Ytdijijblccmfbaa
