/- Whether two terms are one: the program's answer. No condition but that both are terms. -/
import Derived.Test.YtdijijblccmfbaaTJ
import Derived.Test.YtdijijblccmfbaaCQ1
set_option linter.unusedSimpArgs false
set_option linter.unusedVariables false
namespace Go.Proofs.Ytdijijblccmfbaa
open Go

def levEq (a b : Lev) : Bool := decide (a.n = b.n ∧ a.v = b.v)
def levsEq : List Lev → List Lev → Bool
  | [],[] => true
  | a :: s,b :: t => levEq a b && levsEq s t
  | _,_ => false
theorem levEq_iff {a b : Lev} : levEq a b = true ↔ a = b := by
  unfold levEq
  rw [decide_eq_true_iff]
  cases a; cases b
  simp
theorem levsEq_iff : ∀ {s t : List Lev},levsEq s t = true ↔ s = t
  | [],[] => by simp [levsEq]
  | [],_ :: _ => by simp [levsEq]
  | _ :: _,[] => by simp [levsEq]
  | a :: s,b :: t => by rw [levsEq,Bool.and_eq_true,levEq_iff,levsEq_iff]; simp
theorem levsEq_len {s t : List Lev} (h : s.length ≠ t.length) : levsEq s t = false := by
  cases hb : levsEq s t with
  | false => rfl
  | true => exact absurd (congrArg List.length (levsEq_iff.1 hb)) h
def partEq (hid : Bool) (a b : Trm) : Bool :=
  decide (a.form = b.form) && (decide (a.kids.length = b.kids.length) &&
  (if a.form = 1 ∨ a.form = 11 then decide (a.n = b.n)
  else if a.form = 3 ∨ a.form = 4 ∨ a.form = 5 then !hid || decide (a.hid = b.hid)
  else if a.form = 2 then levsEq a.levels b.levels
  else if a.form = 10 then decide (a.name = b.name) && levsEq a.levels b.levels
  else true))
mutual
def sameT (hid : Bool) : Trm → Trm → Bool
  | .mk f n h nm ls ks,u => partEq hid (.mk f n h nm ls ks) u && sameTs hid ks u.kids
def sameTs (hid : Bool) : List Trm → List Trm → Bool
  | [],_ => true
  | _ :: _,[] => true
  | k :: t,u :: w => sameT hid k u && sameTs hid t w
end
theorem sameT_eq (hid : Bool) (a b : Trm) : sameT hid a b = (partEq hid a b && sameTs hid a.kids b.kids) := by cases a; rw [sameT]; rfl
theorem sameTs_nil (hid : Bool) (l : List Trm) : sameTs hid [] l = true := by rw [sameTs]
theorem sameTs_cons (hid : Bool) (k u : Trm) (t w : List Trm) : sameTs hid (k :: t) (u :: w) = (sameT hid k u && sameTs hid t w) := by rw [sameTs]
theorem formed_kids {t : Trm} (h : formedT t = true) : (t.kids.length ≤ 3 ∧ partOk t = true) ∧ ∀ k,k ∈ t.kids → formedT k = true := by
  rw [formedT_eq,Bool.and_eq_true,List.all_eq_true] at h
  refine ⟨⟨?_,h.1⟩,h.2⟩
  have := part_len h.1
  have hk : kidsN t.form ≤ 3 := by unfold kidsN; split; decide; split; decide; split; decide; split <;> decide
  omega
theorem canon_len {l : Lev} (h : l.canon = true) : l.v.length ≤ 64 := by
  unfold Lev.canon at h
  rw [Bool.and_eq_true] at h
  exact (right_iff.1 h.1).2.1
theorem part_canon {t : Trm} (h : partOk t = true) (hf : t.form = 2 ∨ t.form = 10) : t.levels.all Lev.canon = true := by
  unfold partOk at h
  rw [Bool.and_eq_true] at h
  have h2 := h.2
  rcases hf with hf | hf
  · rw [if_neg (by omega),if_neg (by omega),if_pos hf,Bool.and_eq_true] at h2
    exact h2.2
  · rw [if_neg (by omega),if_neg (by omega),if_neg (by omega),if_pos hf,Bool.and_eq_true] at h2
    exact h2.2

set_option maxHeartbeats 4000000 in
theorem pSameLevels (s s' : Sl SLev) (hl : s.el.length ≤ 9223372036854775807) (h1 : ∀ l,l ∈ s.el → l.vs.el.length ≤ 64) (h2 : ∀ l,l ∈ s'.el → l.vs.el.length ≤ 64) (n : Nat) (h : Hps) (hg : Gd n h) :
    callFn (LX (cF Try.prog)) n h [slD 2 encL s,slD 2 encL s'] (cF Try.prog 109) = .ok (.bool (levsEq (s.el.map SLev.lev) (s'.el.map SLev.lev))) n h := by
  have hgn := hg n (Nat.le_refl _)
  rw [f109_eq]; unfold c109; rw [callFn_eq (by rfl)]
  by_cases y : ((s.el.length : Nat) : Int) = ((s'.el.length : Nat) : Int)
  case neg =>
    rw [levsEq_len (by rw [List.length_map,List.length_map]; omega)]
    simp (disch:=first|assumption|omega|(simp (disch:=first|assumption|omega) only [sB,Nat.reduceAdd,Nat.reduceLT,Nat.reduceLeDiff,Nat.reduceEqDiff,Nat.reduceMul,↓reduceIte];done)|fail) only [sA,↓reduceIte,Nat.reduceLT,Nat.reduceEqDiff,Nat.reduceAdd,Nat.reduceLeDiff,y]
  have y' : s'.el.length = s.el.length := by omega
  have yd : decide (((s.el.length : Nat) : Int) = ((s'.el.length : Nat) : Int)) = true := decide_eq_true y
  simp (disch:=first|assumption|omega|(simp (disch:=first|assumption|omega) only [sB,Nat.reduceAdd,Nat.reduceLT,Nat.reduceLeDiff,Nat.reduceEqDiff,Nat.reduceMul,↓reduceIte];done)|fail) only [sA,↓reduceIte,Nat.reduceLT,Nat.reduceEqDiff,Nat.reduceAdd,Nat.reduceLeDiff,yd]
  generalize hB : levsEq (s.el.map SLev.lev) (s'.el.map SLev.lev) = B
  generalize hr : LX (cF Try.prog) (.loop l109_0) _ _ _ = r
  obtain ⟨x,e2,n2,h2',rfl,H2,q⟩ := loop_up hr s.el.length
    (fun i e n' h' => Hp n h n' h' ∧ levsEq ((s.el.drop i).map SLev.lev) ((s'.el.drop i).map SLev.lev) = B ∧ get (po 0) e = slD 2 encL s ∧ get (po 1) e = slD 2 encL s' ∧ get (po 12) e = .int .i64 (s.el.length : Nat) ∧ get (po 13) e = .int .i64 (i : Nat))
    (fun x e n' h' => Hp n h n' h' ∧ ((x = .exit 0 ∧ B = true) ∨ (x = .ret ∧ B = false ∧ get (po 4) e = .bool false)))
    (by
      rintro e n' h' ⟨H,hb,g0,g1,g12,g13⟩
      rw [List.drop_length,← y',List.drop_length,List.map_nil,levsEq] at hb
      unfold l109_0
      simp (disch:=first|assumption|omega|(simp (disch:=first|assumption|omega) only [sB,Nat.reduceAdd,Nat.reduceLT,Nat.reduceLeDiff,Nat.reduceEqDiff,Nat.reduceMul,↓reduceIte];done)|fail) only [sA,↓reduceIte,Nat.reduceLT,Nat.reduceEqDiff,Nat.reduceAdd,Nat.reduceLeDiff,g12,g13]
      exact ⟨_,_,_,_,rfl,by simp,H.mono (by omega),.inl ⟨rfl,hb.symm⟩⟩)
    (by
      rintro i e n' h' hi ⟨H,hb,g0,g1,g12,g13⟩
      have hi' : i < s'.el.length := by omega
      rw [List.drop_eq_getElem_cons hi,List.drop_eq_getElem_cons hi',List.map_cons,List.map_cons,levsEq] at hb
      have k1 := h1 _ (List.getElem_mem hi)
      have k2 := h2 _ (List.getElem_mem hi')
      have hG : ∀ m,n' ≤ m → Gd m h' := fun m hm => H.good' hm
      generalize hW : s.el[i] = W at hb k1
      generalize hW' : s'.el[i] = W' at hb k2
      obtain ⟨an,av⟩ := W
      obtain ⟨bn,bv⟩ := W'
      replace k1 : av.el.length ≤ 64 := k1
      replace k2 : bv.el.length ≤ 64 := k2
      replace hb : (decide (an = bn ∧ av.el = bv.el) && levsEq ((s.el.drop (i + 1)).map SLev.lev) ((s'.el.drop (i + 1)).map SLev.lev)) = B := hb
      have c1 : ∀ m h,Gd m h → callFn (LX (cF Try.prog)) m h [slD 2 encV av,slD 2 encV bv] (cF Try.prog 124) = .ok (.bool (decide (av.el = bv.el))) m h := fun m h hg => slEqual m h hg av bv (by omega) (by omega)
      unfold l109_0
      by_cases z1 : an = bn
      · by_cases z2 : av.el = bv.el
        · rw [decide_eq_true ⟨z1,z2⟩,Bool.true_and] at hb
          rw [decide_eq_true z2] at c1
          simp (disch:=first|assumption|omega|(simp (disch:=first|assumption|omega) only [sB,Nat.reduceAdd,Nat.reduceLT,Nat.reduceLeDiff,Nat.reduceEqDiff,Nat.reduceMul,↓reduceIte,hG,gd_nil,hi'];done)|fail) only [sA,↓reduceIte,Nat.reduceLT,Nat.reduceEqDiff,Nat.reduceAdd,Nat.reduceLeDiff,g0,g1,g12,g13,hW,hW',encL,z1,c1,hG,gd_nil,hi']
          exact ⟨_,_,_,_,rfl,.inl ⟨rfl,H.mono (by omega),hb,by simp (disch:=first|assumption|omega|(simp (disch:=first|assumption|omega) only [sB,Nat.reduceAdd,Nat.reduceLT,Nat.reduceLeDiff,Nat.reduceEqDiff,Nat.reduceMul,↓reduceIte];done)|fail) only [sA,↓reduceIte,Nat.reduceLT,Nat.reduceEqDiff,Nat.reduceAdd,Nat.reduceLeDiff,g0],by simp (disch:=first|assumption|omega|(simp (disch:=first|assumption|omega) only [sB,Nat.reduceAdd,Nat.reduceLT,Nat.reduceLeDiff,Nat.reduceEqDiff,Nat.reduceMul,↓reduceIte];done)|fail) only [sA,↓reduceIte,Nat.reduceLT,Nat.reduceEqDiff,Nat.reduceAdd,Nat.reduceLeDiff,g1],by simp (disch:=first|assumption|omega|(simp (disch:=first|assumption|omega) only [sB,Nat.reduceAdd,Nat.reduceLT,Nat.reduceLeDiff,Nat.reduceEqDiff,Nat.reduceMul,↓reduceIte];done)|fail) only [sA,↓reduceIte,Nat.reduceLT,Nat.reduceEqDiff,Nat.reduceAdd,Nat.reduceLeDiff,g12],by simp (disch:=first|assumption|omega|(simp (disch:=first|assumption|omega) only [sB,Nat.reduceAdd,Nat.reduceLT,Nat.reduceLeDiff,Nat.reduceEqDiff,Nat.reduceMul,↓reduceIte];done)|fail) only [sA,↓reduceIte,Nat.reduceLT,Nat.reduceEqDiff,Nat.reduceAdd,Nat.reduceLeDiff]⟩⟩
        · rw [decide_eq_false (fun e => z2 e.2),Bool.false_and] at hb
          rw [decide_eq_false z2] at c1
          simp (disch:=first|assumption|omega|(simp (disch:=first|assumption|omega) only [sB,Nat.reduceAdd,Nat.reduceLT,Nat.reduceLeDiff,Nat.reduceEqDiff,Nat.reduceMul,↓reduceIte,hG,gd_nil,hi'];done)|fail) only [sA,↓reduceIte,Nat.reduceLT,Nat.reduceEqDiff,Nat.reduceAdd,Nat.reduceLeDiff,g0,g1,g12,g13,hW,hW',encL,z1,c1,hG,gd_nil,hi']
          exact ⟨_,_,_,_,rfl,.inr ⟨by simp,H.mono (by omega),.inr ⟨rfl,hb.symm,by simp (disch:=first|assumption|omega|(simp (disch:=first|assumption|omega) only [sB,Nat.reduceAdd,Nat.reduceLT,Nat.reduceLeDiff,Nat.reduceEqDiff,Nat.reduceMul,↓reduceIte];done)|fail) only [sA,↓reduceIte,Nat.reduceLT,Nat.reduceEqDiff,Nat.reduceAdd,Nat.reduceLeDiff]⟩⟩⟩
      · rw [decide_eq_false (fun e => z1 e.1),Bool.false_and] at hb
        simp (disch:=first|assumption|omega|(simp (disch:=first|assumption|omega) only [sB,Nat.reduceAdd,Nat.reduceLT,Nat.reduceLeDiff,Nat.reduceEqDiff,Nat.reduceMul,↓reduceIte,hG,gd_nil,hi'];done)|fail) only [sA,↓reduceIte,Nat.reduceLT,Nat.reduceEqDiff,Nat.reduceAdd,Nat.reduceLeDiff,g0,g1,g12,g13,hW,hW',encL,z1,hG,gd_nil,hi']
        exact ⟨_,_,_,_,rfl,.inr ⟨by simp,H.mono (by omega),.inr ⟨rfl,hb.symm,by simp (disch:=first|assumption|omega|(simp (disch:=first|assumption|omega) only [sB,Nat.reduceAdd,Nat.reduceLT,Nat.reduceLeDiff,Nat.reduceEqDiff,Nat.reduceMul,↓reduceIte];done)|fail) only [sA,↓reduceIte,Nat.reduceLT,Nat.reduceEqDiff,Nat.reduceAdd,Nat.reduceLeDiff]⟩⟩⟩)
    ⟨(Hp.start hg).mono (by omega),by rw [List.drop_zero,List.drop_zero]; exact hB,by simp (disch:=first|assumption|omega|(simp (disch:=first|assumption|omega) only [sB,Nat.reduceAdd,Nat.reduceLT,Nat.reduceLeDiff,Nat.reduceEqDiff,Nat.reduceMul,↓reduceIte];done)|fail) only [sA,↓reduceIte,Nat.reduceLT,Nat.reduceEqDiff,Nat.reduceAdd,Nat.reduceLeDiff],by simp (disch:=first|assumption|omega|(simp (disch:=first|assumption|omega) only [sB,Nat.reduceAdd,Nat.reduceLT,Nat.reduceLeDiff,Nat.reduceEqDiff,Nat.reduceMul,↓reduceIte];done)|fail) only [sA,↓reduceIte,Nat.reduceLT,Nat.reduceEqDiff,Nat.reduceAdd,Nat.reduceLeDiff],by simp (disch:=first|assumption|omega|(simp (disch:=first|assumption|omega) only [sB,Nat.reduceAdd,Nat.reduceLT,Nat.reduceLeDiff,Nat.reduceEqDiff,Nat.reduceMul,↓reduceIte];done)|fail) only [sA,↓reduceIte,Nat.reduceLT,Nat.reduceEqDiff,Nat.reduceAdd,Nat.reduceLeDiff],by simp (disch:=first|assumption|omega|(simp (disch:=first|assumption|omega) only [sB,Nat.reduceAdd,Nat.reduceLT,Nat.reduceLeDiff,Nat.reduceEqDiff,Nat.reduceMul,↓reduceIte];done)|fail) only [sA,↓reduceIte,Nat.reduceLT,Nat.reduceEqDiff,Nat.reduceAdd,Nat.reduceLeDiff]⟩
  rcases q with ⟨rfl,hb⟩ | ⟨rfl,hb,g4⟩
  · rw [hb]
    simp (disch:=first|assumption|omega|(simp (disch:=first|assumption|omega) only [sB,Nat.reduceAdd,Nat.reduceLT,Nat.reduceLeDiff,Nat.reduceEqDiff,Nat.reduceMul,↓reduceIte];done)|fail) only [sA,↓reduceIte,Nat.reduceLT,Nat.reduceEqDiff,Nat.reduceAdd,Nat.reduceLeDiff,finish_flat (d := .bool true) rfl (H2.mono (show n2 ≤ n2 + 1 by omega))]
  · rw [hb]
    simp (disch:=first|assumption|omega|(simp (disch:=first|assumption|omega) only [sB,Nat.reduceAdd,Nat.reduceLT,Nat.reduceLeDiff,Nat.reduceEqDiff,Nat.reduceMul,↓reduceIte];done)|fail) only [sA,↓reduceIte,Nat.reduceLT,Nat.reduceEqDiff,Nat.reduceAdd,Nat.reduceLeDiff,g4,finish_flat (d := .bool false) rfl H2]

theorem partEq_tm (hid : Bool) (a b : Tm) : partEq hid a.abs b.abs = (decide (a.form = b.form) && (decide (a.kids.el.length = b.kids.el.length) &&
  (if a.form = 1 ∨ a.form = 11 then decide (a.n = b.n)
  else if a.form = 3 ∨ a.form = 4 ∨ a.form = 5 then !hid || decide (a.hid = b.hid)
  else if a.form = 2 then levsEq (a.levels.el.map SLev.lev) (b.levels.el.map SLev.lev)
  else if a.form = 10 then decide (a.name = b.name) && levsEq (a.levels.el.map SLev.lev) (b.levels.el.map SLev.lev)
  else true))) := by
  unfold partEq
  rw [abs_form,abs_form,abs_n,abs_n,abs_hid,abs_hid,abs_name,abs_name,abs_levels,abs_levels,abs_kids,abs_kids,List.length_map,List.length_map]
set_option maxHeartbeats 4000000 in
theorem sameLoop (n : Nat) (h : Hps) (hid : Bool) (a b : Tm) (hl : a.kids.el.length = b.kids.el.length) (h3 : a.kids.el.length ≤ 3)
    (ih : ∀ (i : Nat) (hi : i < a.kids.el.length) (hi' : i < b.kids.el.length),∀ m h,Gd m h → callFn (LX (cF Try.prog)) m h [(D.agg [.int .i64 (a.kids.el[i]).form,.int .i64 (a.kids.el[i]).n,.bool (a.kids.el[i]).hid,.str (a.kids.el[i]).name,slD 2 encL (a.kids.el[i]).levels,slD 6 encT (a.kids.el[i]).kids]),(D.agg [.int .i64 (b.kids.el[i]).form,.int .i64 (b.kids.el[i]).n,.bool (b.kids.el[i]).hid,.str (b.kids.el[i]).name,slD 2 encL (b.kids.el[i]).levels,slD 6 encT (b.kids.el[i]).kids]),.bool hid] (cF Try.prog 79) = .ok (.bool (sameT hid a.kids.el[i].abs b.kids.el[i].abs)) m h)
    {e : Tr} {n0 : Nat} {h' : Hps} {r : Re} (hr : LX (cF Try.prog) (.loop l79_0) e n0 h' = r) (H : Hp n h n0 h') (p0 : n + 2 ≤ n0) (b3 : getO h' n = (Ob.row 6 [.agg [.int .i64 (a).form,.int .i64 (a).n,.bool (a).hid,.str (a).name,slD 2 encL (a).levels,slD 6 encT (a).kids]])) (b4 : getO h' (n + 1) = (Ob.row 6 [.agg [.int .i64 (b).form,.int .i64 (b).n,.bool (b).hid,.str (b).name,slD 2 encL (b).levels,slD 6 encT (b).kids]]))
    (g2 : get (po 2) e = .bool hid) (g3 : get (po 3) e = .ptr n 0 0) (g4 : get (po 4) e = .ptr (n + 1) 0 0) (g69 : get (po 69) e = .int .i64 (a.kids.el.length : Nat)) (g70 : get (po 70) e = .int .i64 0) :
    ∃ x e' n' h'',r = .ok x e' n' h'' ∧ Hp n h n' h'' ∧ ((x = .exit 1 ∧ sameTs hid (a.kids.el.map Tm.abs) (b.kids.el.map Tm.abs) = true) ∨ (x = .ret ∧ sameTs hid (a.kids.el.map Tm.abs) (b.kids.el.map Tm.abs) = false ∧ get (po 6) e' = .bool false)) := by
  generalize hB : sameTs hid (a.kids.el.map Tm.abs) (b.kids.el.map Tm.abs) = B
  refine loop_up hr a.kids.el.length
    (fun i e n' h'' => Hp n h n' h'' ∧ n + 2 ≤ n' ∧ getO h'' n = (Ob.row 6 [.agg [.int .i64 (a).form,.int .i64 (a).n,.bool (a).hid,.str (a).name,slD 2 encL (a).levels,slD 6 encT (a).kids]]) ∧ getO h'' (n + 1) = (Ob.row 6 [.agg [.int .i64 (b).form,.int .i64 (b).n,.bool (b).hid,.str (b).name,slD 2 encL (b).levels,slD 6 encT (b).kids]]) ∧ sameTs hid ((a.kids.el.drop i).map Tm.abs) ((b.kids.el.drop i).map Tm.abs) = B ∧ get (po 2) e = .bool hid ∧ get (po 3) e = .ptr n 0 0 ∧ get (po 4) e = .ptr (n + 1) 0 0 ∧ get (po 69) e = .int .i64 (a.kids.el.length : Nat) ∧ get (po 70) e = .int .i64 (i : Nat))
    (fun x e' n' h'' => Hp n h n' h'' ∧ ((x = .exit 1 ∧ B = true) ∨ (x = .ret ∧ B = false ∧ get (po 6) e' = .bool false)))
    ?_ ?_ ⟨H,p0,b3,b4,by rw [List.drop_zero,List.drop_zero]; exact hB,g2,g3,g4,g69,g70⟩
  · rintro e n' h'' ⟨H,p1,b3,b4,hb,g2,g3,g4,g69,g70⟩
    rw [List.drop_length,List.map_nil,sameTs_nil] at hb
    unfold l79_0
    simp (disch:=first|assumption|omega|(simp (disch:=first|assumption|omega) only [sB,Nat.reduceAdd,Nat.reduceLT,Nat.reduceLeDiff,Nat.reduceEqDiff,Nat.reduceMul,↓reduceIte];done)|fail) only [sA,↓reduceIte,Nat.reduceLT,Nat.reduceEqDiff,Nat.reduceAdd,Nat.reduceLeDiff,g69,g70]
    exact ⟨_,_,_,_,rfl,by simp,H.mono (by omega),.inl ⟨rfl,hb.symm⟩⟩
  · rintro i e n' h'' hi ⟨H,p1,b3,b4,hb,g2,g3,g4,g69,g70⟩
    have hi' : i < b.kids.el.length := by omega
    rw [List.drop_eq_getElem_cons hi,List.drop_eq_getElem_cons hi',List.map_cons,List.map_cons,sameTs_cons] at hb
    have hG : ∀ m,n' ≤ m → Gd m h'' := fun m hm => H.good' hm
    have c1 := ih i hi hi'
    unfold l79_0
    cases hc : sameT hid a.kids.el[i].abs b.kids.el[i].abs with
    | true =>
      rw [hc] at c1
      rw [hc,Bool.true_and] at hb
      simp (disch:=first|assumption|omega|(simp (disch:=first|assumption|omega) only [sB,Nat.reduceAdd,Nat.reduceLT,Nat.reduceLeDiff,Nat.reduceEqDiff,Nat.reduceMul,↓reduceIte,hG,hi'];done)|fail) only [sA,↓reduceIte,Nat.reduceLT,Nat.reduceEqDiff,Nat.reduceAdd,Nat.reduceLeDiff,g2,g3,g4,g69,g70,b3,b4,encT_eq,c1,hG,hi']
      exact ⟨_,_,_,_,rfl,.inl ⟨rfl,H.mono (by omega),by omega,b3,b4,hb,by simp (disch:=first|assumption|omega|(simp (disch:=first|assumption|omega) only [sB,Nat.reduceAdd,Nat.reduceLT,Nat.reduceLeDiff,Nat.reduceEqDiff,Nat.reduceMul,↓reduceIte];done)|fail) only [sA,↓reduceIte,Nat.reduceLT,Nat.reduceEqDiff,Nat.reduceAdd,Nat.reduceLeDiff,g2],by simp (disch:=first|assumption|omega|(simp (disch:=first|assumption|omega) only [sB,Nat.reduceAdd,Nat.reduceLT,Nat.reduceLeDiff,Nat.reduceEqDiff,Nat.reduceMul,↓reduceIte];done)|fail) only [sA,↓reduceIte,Nat.reduceLT,Nat.reduceEqDiff,Nat.reduceAdd,Nat.reduceLeDiff,g3],by simp (disch:=first|assumption|omega|(simp (disch:=first|assumption|omega) only [sB,Nat.reduceAdd,Nat.reduceLT,Nat.reduceLeDiff,Nat.reduceEqDiff,Nat.reduceMul,↓reduceIte];done)|fail) only [sA,↓reduceIte,Nat.reduceLT,Nat.reduceEqDiff,Nat.reduceAdd,Nat.reduceLeDiff,g4],by simp (disch:=first|assumption|omega|(simp (disch:=first|assumption|omega) only [sB,Nat.reduceAdd,Nat.reduceLT,Nat.reduceLeDiff,Nat.reduceEqDiff,Nat.reduceMul,↓reduceIte];done)|fail) only [sA,↓reduceIte,Nat.reduceLT,Nat.reduceEqDiff,Nat.reduceAdd,Nat.reduceLeDiff,g69],by simp (disch:=first|assumption|omega|(simp (disch:=first|assumption|omega) only [sB,Nat.reduceAdd,Nat.reduceLT,Nat.reduceLeDiff,Nat.reduceEqDiff,Nat.reduceMul,↓reduceIte];done)|fail) only [sA,↓reduceIte,Nat.reduceLT,Nat.reduceEqDiff,Nat.reduceAdd,Nat.reduceLeDiff]⟩⟩
    | false =>
      rw [hc] at c1
      rw [hc,Bool.false_and] at hb
      simp (disch:=first|assumption|omega|(simp (disch:=first|assumption|omega) only [sB,Nat.reduceAdd,Nat.reduceLT,Nat.reduceLeDiff,Nat.reduceEqDiff,Nat.reduceMul,↓reduceIte,hG,hi'];done)|fail) only [sA,↓reduceIte,Nat.reduceLT,Nat.reduceEqDiff,Nat.reduceAdd,Nat.reduceLeDiff,g2,g3,g4,g69,g70,b3,b4,encT_eq,c1,hG,hi']
      exact ⟨_,_,_,_,rfl,.inr ⟨by simp,H.mono (by omega),.inr ⟨rfl,hb.symm,by simp (disch:=first|assumption|omega|(simp (disch:=first|assumption|omega) only [sB,Nat.reduceAdd,Nat.reduceLT,Nat.reduceLeDiff,Nat.reduceEqDiff,Nat.reduceMul,↓reduceIte];done)|fail) only [sA,↓reduceIte,Nat.reduceLT,Nat.reduceEqDiff,Nat.reduceAdd,Nat.reduceLeDiff]⟩⟩⟩

set_option maxHeartbeats 8000000 in
theorem pSameT (hid : Bool) : ∀ a : Tm,formedT a.abs = true → saneT a.abs = true → ∀ b : Tm,formedT b.abs = true → ∀ (n : Nat) (h : Hps),Gd n h → callFn (LX (cF Try.prog)) n h [(D.agg [.int .i64 (a).form,.int .i64 (a).n,.bool (a).hid,.str (a).name,slD 2 encL (a).levels,slD 6 encT (a).kids]),(D.agg [.int .i64 (b).form,.int .i64 (b).n,.bool (b).hid,.str (b).name,slD 2 encL (b).levels,slD 6 encT (b).kids]),.bool hid] (cF Try.prog 79) = .ok (.bool (sameT hid a.abs b.abs)) n h := by
  refine Tm.ind ?_
  intro a ih0 fa sa b fb n h hg
  obtain ⟨⟨hll,hkl⟩,hsk⟩ := sane_tm sa
  obtain ⟨⟨ka,pa⟩,kka⟩ := formed_kids fa
  obtain ⟨⟨_,pb⟩,kkb⟩ := formed_kids fb
  rw [abs_kids,List.length_map] at ka
  have ih : ∀ (i : Nat) (hi : i < a.kids.el.length) (hi' : i < b.kids.el.length),∀ m h,Gd m h → callFn (LX (cF Try.prog)) m h [(D.agg [.int .i64 (a.kids.el[i]).form,.int .i64 (a.kids.el[i]).n,.bool (a.kids.el[i]).hid,.str (a.kids.el[i]).name,slD 2 encL (a.kids.el[i]).levels,slD 6 encT (a.kids.el[i]).kids]),(D.agg [.int .i64 (b.kids.el[i]).form,.int .i64 (b.kids.el[i]).n,.bool (b.kids.el[i]).hid,.str (b.kids.el[i]).name,slD 2 encL (b.kids.el[i]).levels,slD 6 encT (b.kids.el[i]).kids]),.bool hid] (cF Try.prog 79) = .ok (.bool (sameT hid a.kids.el[i].abs b.kids.el[i].abs)) m h := fun i hi hi' m h hg =>
    ih0 _ (List.getElem_mem hi) (kka _ (by rw [abs_kids]; exact List.mem_map.2 ⟨_,List.getElem_mem hi,rfl⟩)) (hsk _ (List.getElem_mem hi)) _ (kkb _ (by rw [abs_kids]; exact List.mem_map.2 ⟨_,List.getElem_mem hi',rfl⟩)) m h hg
  clear ih0
  have cl : a.form = 2 ∨ a.form = 10 → a.form = b.form → ∀ m h,Gd m h → callFn (LX (cF Try.prog)) m h [slD 2 encL a.levels,slD 2 encL b.levels] (cF Try.prog 109) = .ok (.bool (levsEq (a.levels.el.map SLev.lev) (b.levels.el.map SLev.lev))) m h := fun hf hfb m h hg => by
    have q1 := part_canon pa (by rw [abs_form]; exact hf)
    have q2 := part_canon pb (by rw [abs_form]; rw [← hfb]; exact hf)
    rw [abs_levels,List.all_map,List.all_eq_true] at q1 q2
    exact pSameLevels a.levels b.levels hll (fun l hl => canon_len (q1 l hl)) (fun l hl => canon_len (q2 l hl)) m h hg
  have hgn := hg n (Nat.le_refl _)
  have H0 : Hp n h (n + 2) ((n + 1,(Ob.row 6 [.agg [.int .i64 (b).form,.int .i64 (b).n,.bool (b).hid,.str (b).name,slD 2 encL (b).levels,slD 6 encT (b).kids]])) :: (n,(Ob.row 6 [.agg [.int .i64 (a).form,.int .i64 (a).n,.bool (a).hid,.str (a).name,slD 2 encL (a).levels,slD 6 encT (a).kids]])) :: h) := ((Hp.start hg).box (k := 6) (r := n) (m := n + 1) (Nat.le_refl _) (by omega) (flatTA a)).box (k := 6) (r := n + 1) (m := n + 2) (by omega) (by omega) (flatTA b)
  have hGb : ∀ m,n + 2 ≤ m → Gd m ((n + 1,(Ob.row 6 [.agg [.int .i64 (b).form,.int .i64 (b).n,.bool (b).hid,.str (b).name,slD 2 encL (b).levels,slD 6 encT (b).kids]])) :: (n,(Ob.row 6 [.agg [.int .i64 (a).form,.int .i64 (a).n,.bool (a).hid,.str (a).name,slD 2 encL (a).levels,slD 6 encT (a).kids]])) :: h) := fun m hm => H0.good' hm
  rw [sameT_eq,partEq_tm,abs_kids,abs_kids]
  have tailK : a.kids.el.length = b.kids.el.length → ∀ {e : Tr} {n0 : Nat} {h' : Hps} {r : Re},LX (cF Try.prog) (.loop l79_0) e n0 h' = r → Hp n h n0 h' → n + 2 ≤ n0 → getO h' n = (Ob.row 6 [.agg [.int .i64 (a).form,.int .i64 (a).n,.bool (a).hid,.str (a).name,slD 2 encL (a).levels,slD 6 encT (a).kids]]) → getO h' (n + 1) = (Ob.row 6 [.agg [.int .i64 (b).form,.int .i64 (b).n,.bool (b).hid,.str (b).name,slD 2 encL (b).levels,slD 6 encT (b).kids]]) → get (po 2) e = .bool hid → get (po 3) e = .ptr n 0 0 → get (po 4) e = .ptr (n + 1) 0 0 → get (po 69) e = .int .i64 (a.kids.el.length : Nat) → get (po 70) e = .int .i64 0 →
      ∃ x e' n' h'',r = .ok x e' n' h'' ∧ Hp n h n' h'' ∧ ((x = .exit 1 ∧ sameTs hid (a.kids.el.map Tm.abs) (b.kids.el.map Tm.abs) = true) ∨ (x = .ret ∧ sameTs hid (a.kids.el.map Tm.abs) (b.kids.el.map Tm.abs) = false ∧ get (po 6) e' = .bool false)) :=
    fun hl {_ _ _ _} hr H p b3 b4 g2 g3 g4 g69 g70 => sameLoop n h hid a b hl ka ih hr H p b3 b4 g2 g3 g4 g69 g70
  clear ih pa pb kka kkb hll hkl hsk sa fa fb
  generalize sameTs hid (a.kids.el.map Tm.abs) (b.kids.el.map Tm.abs) = B at tailK ⊢
  generalize levsEq (a.levels.el.map SLev.lev) (b.levels.el.map SLev.lev) = L at cl ⊢
  generalize hfa : a.form = f at *
  generalize hfb : b.form = g at *
  rw [f79_eq]; unfold c79; rw [callFn_eq (by rfl)]
  by_cases y0 : f = g
  case neg =>
    rw [decide_eq_false y0,Bool.false_and,Bool.false_and]
    simp (disch:=first|assumption|omega|(simp (disch:=first|assumption|omega) only [sB,Nat.reduceAdd,Nat.reduceLT,Nat.reduceLeDiff,Nat.reduceEqDiff,Nat.reduceMul,↓reduceIte];done)|fail) only [sA,↓reduceIte,Nat.reduceLT,Nat.reduceEqDiff,Nat.reduceAdd,Nat.reduceLeDiff,y0]
  subst y0
  rw [decide_eq_true rfl,Bool.true_and]
  by_cases y1 : ((a.kids.el.length : Nat) : Int) = ((b.kids.el.length : Nat) : Int)
  case neg =>
    rw [decide_eq_false (by omega),Bool.false_and,Bool.false_and]
    simp (disch:=first|assumption|omega|(simp (disch:=first|assumption|omega) only [sB,Nat.reduceAdd,Nat.reduceLT,Nat.reduceLeDiff,Nat.reduceEqDiff,Nat.reduceMul,↓reduceIte];done)|fail) only [sA,↓reduceIte,Nat.reduceLT,Nat.reduceEqDiff,Nat.reduceAdd,Nat.reduceLeDiff,y1]
  have y1' : a.kids.el.length = b.kids.el.length := by omega
  have y1d : decide (((a.kids.el.length : Nat) : Int) = ((b.kids.el.length : Nat) : Int)) = true := decide_eq_true y1
  rw [decide_eq_true y1',Bool.true_and]
  replace tailK := fun {e : Tr} {n0 : Nat} {h' : Hps} {r : Re} => @tailK y1' e n0 h' r
  by_cases f1 : f = 1
  · subst f1
    rw [if_pos (Or.inl rfl)]
    by_cases y3 : a.n = b.n
    · rw [decide_eq_true y3,Bool.true_and]
      have y3d : decide (a.n = b.n) = true := decide_eq_true y3
      simp (disch:=first|assumption|omega|(simp (disch:=first|assumption|omega) only [sB,Nat.reduceAdd,Nat.reduceLT,Nat.reduceLeDiff,Nat.reduceEqDiff,Nat.reduceMul,↓reduceIte,hGb];done)|fail) only [sA,↓reduceIte,Nat.reduceLT,Nat.reduceEqDiff,Nat.reduceAdd,Nat.reduceLeDiff,y1d,y3d,hGb]
      generalize hr : LX (cF Try.prog) (.loop l79_0) _ _ _ = r
      obtain ⟨x,e3,n3,h3,rfl,H3,q⟩ := tailK hr (H0.mono (by omega)) (by omega) (by simp (disch:=first|assumption|omega|(simp (disch:=first|assumption|omega) only [sB,Nat.reduceAdd,Nat.reduceLT,Nat.reduceLeDiff,Nat.reduceEqDiff,Nat.reduceMul,↓reduceIte];done)|fail) only [sA,↓reduceIte,Nat.reduceLT,Nat.reduceEqDiff,Nat.reduceAdd,Nat.reduceLeDiff]) (by simp (disch:=first|assumption|omega|(simp (disch:=first|assumption|omega) only [sB,Nat.reduceAdd,Nat.reduceLT,Nat.reduceLeDiff,Nat.reduceEqDiff,Nat.reduceMul,↓reduceIte];done)|fail) only [sA,↓reduceIte,Nat.reduceLT,Nat.reduceEqDiff,Nat.reduceAdd,Nat.reduceLeDiff]) (by simp (disch:=first|assumption|omega|(simp (disch:=first|assumption|omega) only [sB,Nat.reduceAdd,Nat.reduceLT,Nat.reduceLeDiff,Nat.reduceEqDiff,Nat.reduceMul,↓reduceIte];done)|fail) only [sA,↓reduceIte,Nat.reduceLT,Nat.reduceEqDiff,Nat.reduceAdd,Nat.reduceLeDiff]) (by simp (disch:=first|assumption|omega|(simp (disch:=first|assumption|omega) only [sB,Nat.reduceAdd,Nat.reduceLT,Nat.reduceLeDiff,Nat.reduceEqDiff,Nat.reduceMul,↓reduceIte];done)|fail) only [sA,↓reduceIte,Nat.reduceLT,Nat.reduceEqDiff,Nat.reduceAdd,Nat.reduceLeDiff]) (by simp (disch:=first|assumption|omega|(simp (disch:=first|assumption|omega) only [sB,Nat.reduceAdd,Nat.reduceLT,Nat.reduceLeDiff,Nat.reduceEqDiff,Nat.reduceMul,↓reduceIte];done)|fail) only [sA,↓reduceIte,Nat.reduceLT,Nat.reduceEqDiff,Nat.reduceAdd,Nat.reduceLeDiff]) (by simp (disch:=first|assumption|omega|(simp (disch:=first|assumption|omega) only [sB,Nat.reduceAdd,Nat.reduceLT,Nat.reduceLeDiff,Nat.reduceEqDiff,Nat.reduceMul,↓reduceIte];done)|fail) only [sA,↓reduceIte,Nat.reduceLT,Nat.reduceEqDiff,Nat.reduceAdd,Nat.reduceLeDiff]) (by simp (disch:=first|assumption|omega|(simp (disch:=first|assumption|omega) only [sB,Nat.reduceAdd,Nat.reduceLT,Nat.reduceLeDiff,Nat.reduceEqDiff,Nat.reduceMul,↓reduceIte];done)|fail) only [sA,↓reduceIte,Nat.reduceLT,Nat.reduceEqDiff,Nat.reduceAdd,Nat.reduceLeDiff])
      rcases q with ⟨rfl,hb⟩ | ⟨rfl,hb,g6⟩
      · rw [hb]
        simp (disch:=first|assumption|omega|(simp (disch:=first|assumption|omega) only [sB,Nat.reduceAdd,Nat.reduceLT,Nat.reduceLeDiff,Nat.reduceEqDiff,Nat.reduceMul,↓reduceIte];done)|fail) only [sA,↓reduceIte,Nat.reduceLT,Nat.reduceEqDiff,Nat.reduceAdd,Nat.reduceLeDiff,finish_flat (d := .bool true) rfl (H3.mono (show n3 ≤ n3 + 1 by omega))]
      · rw [hb]
        simp (disch:=first|assumption|omega|(simp (disch:=first|assumption|omega) only [sB,Nat.reduceAdd,Nat.reduceLT,Nat.reduceLeDiff,Nat.reduceEqDiff,Nat.reduceMul,↓reduceIte];done)|fail) only [sA,↓reduceIte,Nat.reduceLT,Nat.reduceEqDiff,Nat.reduceAdd,Nat.reduceLeDiff,g6,finish_flat (d := .bool false) rfl H3]
    · rw [decide_eq_false y3,Bool.false_and]
      simp (disch:=first|assumption|omega|(simp (disch:=first|assumption|omega) only [sB,Nat.reduceAdd,Nat.reduceLT,Nat.reduceLeDiff,Nat.reduceEqDiff,Nat.reduceMul,↓reduceIte,hGb];done)|fail) only [sA,↓reduceIte,Nat.reduceLT,Nat.reduceEqDiff,Nat.reduceAdd,Nat.reduceLeDiff,y1d,y3,hGb]
  by_cases f11 : f = 11
  · subst f11
    rw [if_pos (Or.inr rfl)]
    by_cases y3 : a.n = b.n
    · rw [decide_eq_true y3,Bool.true_and]
      have y3d : decide (a.n = b.n) = true := decide_eq_true y3
      simp (disch:=first|assumption|omega|(simp (disch:=first|assumption|omega) only [sB,Nat.reduceAdd,Nat.reduceLT,Nat.reduceLeDiff,Nat.reduceEqDiff,Nat.reduceMul,↓reduceIte,hGb];done)|fail) only [sA,↓reduceIte,Nat.reduceLT,Nat.reduceEqDiff,Nat.reduceAdd,Nat.reduceLeDiff,y1d,y3d,hGb]
      generalize hr : LX (cF Try.prog) (.loop l79_0) _ _ _ = r
      obtain ⟨x,e3,n3,h3,rfl,H3,q⟩ := tailK hr (H0.mono (by omega)) (by omega) (by simp (disch:=first|assumption|omega|(simp (disch:=first|assumption|omega) only [sB,Nat.reduceAdd,Nat.reduceLT,Nat.reduceLeDiff,Nat.reduceEqDiff,Nat.reduceMul,↓reduceIte];done)|fail) only [sA,↓reduceIte,Nat.reduceLT,Nat.reduceEqDiff,Nat.reduceAdd,Nat.reduceLeDiff]) (by simp (disch:=first|assumption|omega|(simp (disch:=first|assumption|omega) only [sB,Nat.reduceAdd,Nat.reduceLT,Nat.reduceLeDiff,Nat.reduceEqDiff,Nat.reduceMul,↓reduceIte];done)|fail) only [sA,↓reduceIte,Nat.reduceLT,Nat.reduceEqDiff,Nat.reduceAdd,Nat.reduceLeDiff]) (by simp (disch:=first|assumption|omega|(simp (disch:=first|assumption|omega) only [sB,Nat.reduceAdd,Nat.reduceLT,Nat.reduceLeDiff,Nat.reduceEqDiff,Nat.reduceMul,↓reduceIte];done)|fail) only [sA,↓reduceIte,Nat.reduceLT,Nat.reduceEqDiff,Nat.reduceAdd,Nat.reduceLeDiff]) (by simp (disch:=first|assumption|omega|(simp (disch:=first|assumption|omega) only [sB,Nat.reduceAdd,Nat.reduceLT,Nat.reduceLeDiff,Nat.reduceEqDiff,Nat.reduceMul,↓reduceIte];done)|fail) only [sA,↓reduceIte,Nat.reduceLT,Nat.reduceEqDiff,Nat.reduceAdd,Nat.reduceLeDiff]) (by simp (disch:=first|assumption|omega|(simp (disch:=first|assumption|omega) only [sB,Nat.reduceAdd,Nat.reduceLT,Nat.reduceLeDiff,Nat.reduceEqDiff,Nat.reduceMul,↓reduceIte];done)|fail) only [sA,↓reduceIte,Nat.reduceLT,Nat.reduceEqDiff,Nat.reduceAdd,Nat.reduceLeDiff]) (by simp (disch:=first|assumption|omega|(simp (disch:=first|assumption|omega) only [sB,Nat.reduceAdd,Nat.reduceLT,Nat.reduceLeDiff,Nat.reduceEqDiff,Nat.reduceMul,↓reduceIte];done)|fail) only [sA,↓reduceIte,Nat.reduceLT,Nat.reduceEqDiff,Nat.reduceAdd,Nat.reduceLeDiff]) (by simp (disch:=first|assumption|omega|(simp (disch:=first|assumption|omega) only [sB,Nat.reduceAdd,Nat.reduceLT,Nat.reduceLeDiff,Nat.reduceEqDiff,Nat.reduceMul,↓reduceIte];done)|fail) only [sA,↓reduceIte,Nat.reduceLT,Nat.reduceEqDiff,Nat.reduceAdd,Nat.reduceLeDiff])
      rcases q with ⟨rfl,hb⟩ | ⟨rfl,hb,g6⟩
      · rw [hb]
        simp (disch:=first|assumption|omega|(simp (disch:=first|assumption|omega) only [sB,Nat.reduceAdd,Nat.reduceLT,Nat.reduceLeDiff,Nat.reduceEqDiff,Nat.reduceMul,↓reduceIte];done)|fail) only [sA,↓reduceIte,Nat.reduceLT,Nat.reduceEqDiff,Nat.reduceAdd,Nat.reduceLeDiff,finish_flat (d := .bool true) rfl (H3.mono (show n3 ≤ n3 + 1 by omega))]
      · rw [hb]
        simp (disch:=first|assumption|omega|(simp (disch:=first|assumption|omega) only [sB,Nat.reduceAdd,Nat.reduceLT,Nat.reduceLeDiff,Nat.reduceEqDiff,Nat.reduceMul,↓reduceIte];done)|fail) only [sA,↓reduceIte,Nat.reduceLT,Nat.reduceEqDiff,Nat.reduceAdd,Nat.reduceLeDiff,g6,finish_flat (d := .bool false) rfl H3]
    · rw [decide_eq_false y3,Bool.false_and]
      simp (disch:=first|assumption|omega|(simp (disch:=first|assumption|omega) only [sB,Nat.reduceAdd,Nat.reduceLT,Nat.reduceLeDiff,Nat.reduceEqDiff,Nat.reduceMul,↓reduceIte,hGb];done)|fail) only [sA,↓reduceIte,Nat.reduceLT,Nat.reduceEqDiff,Nat.reduceAdd,Nat.reduceLeDiff,y1d,y3,hGb]
  rw [if_neg (by omega)]
  by_cases f3 : f = 3
  · subst f3
    rw [if_pos (Or.inl rfl)]
    cases hid with
    | false =>
      rw [Bool.not_false,Bool.true_or,Bool.true_and]
      simp (disch:=first|assumption|omega|(simp (disch:=first|assumption|omega) only [sB,Nat.reduceAdd,Nat.reduceLT,Nat.reduceLeDiff,Nat.reduceEqDiff,Nat.reduceMul,↓reduceIte,hGb];done)|fail) only [sA,↓reduceIte,Nat.reduceLT,Nat.reduceEqDiff,Nat.reduceAdd,Nat.reduceLeDiff,y1d,hGb]
      generalize hr : LX (cF Try.prog) (.loop l79_0) _ _ _ = r
      obtain ⟨x,e3,n3,h3,rfl,H3,q⟩ := tailK hr (H0.mono (by omega)) (by omega) (by simp (disch:=first|assumption|omega|(simp (disch:=first|assumption|omega) only [sB,Nat.reduceAdd,Nat.reduceLT,Nat.reduceLeDiff,Nat.reduceEqDiff,Nat.reduceMul,↓reduceIte];done)|fail) only [sA,↓reduceIte,Nat.reduceLT,Nat.reduceEqDiff,Nat.reduceAdd,Nat.reduceLeDiff]) (by simp (disch:=first|assumption|omega|(simp (disch:=first|assumption|omega) only [sB,Nat.reduceAdd,Nat.reduceLT,Nat.reduceLeDiff,Nat.reduceEqDiff,Nat.reduceMul,↓reduceIte];done)|fail) only [sA,↓reduceIte,Nat.reduceLT,Nat.reduceEqDiff,Nat.reduceAdd,Nat.reduceLeDiff]) (by simp (disch:=first|assumption|omega|(simp (disch:=first|assumption|omega) only [sB,Nat.reduceAdd,Nat.reduceLT,Nat.reduceLeDiff,Nat.reduceEqDiff,Nat.reduceMul,↓reduceIte];done)|fail) only [sA,↓reduceIte,Nat.reduceLT,Nat.reduceEqDiff,Nat.reduceAdd,Nat.reduceLeDiff]) (by simp (disch:=first|assumption|omega|(simp (disch:=first|assumption|omega) only [sB,Nat.reduceAdd,Nat.reduceLT,Nat.reduceLeDiff,Nat.reduceEqDiff,Nat.reduceMul,↓reduceIte];done)|fail) only [sA,↓reduceIte,Nat.reduceLT,Nat.reduceEqDiff,Nat.reduceAdd,Nat.reduceLeDiff]) (by simp (disch:=first|assumption|omega|(simp (disch:=first|assumption|omega) only [sB,Nat.reduceAdd,Nat.reduceLT,Nat.reduceLeDiff,Nat.reduceEqDiff,Nat.reduceMul,↓reduceIte];done)|fail) only [sA,↓reduceIte,Nat.reduceLT,Nat.reduceEqDiff,Nat.reduceAdd,Nat.reduceLeDiff]) (by simp (disch:=first|assumption|omega|(simp (disch:=first|assumption|omega) only [sB,Nat.reduceAdd,Nat.reduceLT,Nat.reduceLeDiff,Nat.reduceEqDiff,Nat.reduceMul,↓reduceIte];done)|fail) only [sA,↓reduceIte,Nat.reduceLT,Nat.reduceEqDiff,Nat.reduceAdd,Nat.reduceLeDiff]) (by simp (disch:=first|assumption|omega|(simp (disch:=first|assumption|omega) only [sB,Nat.reduceAdd,Nat.reduceLT,Nat.reduceLeDiff,Nat.reduceEqDiff,Nat.reduceMul,↓reduceIte];done)|fail) only [sA,↓reduceIte,Nat.reduceLT,Nat.reduceEqDiff,Nat.reduceAdd,Nat.reduceLeDiff])
      rcases q with ⟨rfl,hb⟩ | ⟨rfl,hb,g6⟩
      · rw [hb]
        simp (disch:=first|assumption|omega|(simp (disch:=first|assumption|omega) only [sB,Nat.reduceAdd,Nat.reduceLT,Nat.reduceLeDiff,Nat.reduceEqDiff,Nat.reduceMul,↓reduceIte];done)|fail) only [sA,↓reduceIte,Nat.reduceLT,Nat.reduceEqDiff,Nat.reduceAdd,Nat.reduceLeDiff,finish_flat (d := .bool true) rfl (H3.mono (show n3 ≤ n3 + 1 by omega))]
      · rw [hb]
        simp (disch:=first|assumption|omega|(simp (disch:=first|assumption|omega) only [sB,Nat.reduceAdd,Nat.reduceLT,Nat.reduceLeDiff,Nat.reduceEqDiff,Nat.reduceMul,↓reduceIte];done)|fail) only [sA,↓reduceIte,Nat.reduceLT,Nat.reduceEqDiff,Nat.reduceAdd,Nat.reduceLeDiff,g6,finish_flat (d := .bool false) rfl H3]
    | true =>
      rw [Bool.not_true,Bool.false_or]
      by_cases y3 : a.hid = b.hid
      · rw [decide_eq_true y3,Bool.true_and]
        have y3d : (a.hid == b.hid) = true := by rw [y3]; exact beq_self_eq_true _
        simp (disch:=first|assumption|omega|(simp (disch:=first|assumption|omega) only [sB,Nat.reduceAdd,Nat.reduceLT,Nat.reduceLeDiff,Nat.reduceEqDiff,Nat.reduceMul,↓reduceIte,hGb];done)|fail) only [sA,↓reduceIte,Nat.reduceLT,Nat.reduceEqDiff,Nat.reduceAdd,Nat.reduceLeDiff,y1d,y3d,hGb]
        generalize hr : LX (cF Try.prog) (.loop l79_0) _ _ _ = r
        obtain ⟨x,e3,n3,h3,rfl,H3,q⟩ := tailK hr (H0.mono (by omega)) (by omega) (by simp (disch:=first|assumption|omega|(simp (disch:=first|assumption|omega) only [sB,Nat.reduceAdd,Nat.reduceLT,Nat.reduceLeDiff,Nat.reduceEqDiff,Nat.reduceMul,↓reduceIte];done)|fail) only [sA,↓reduceIte,Nat.reduceLT,Nat.reduceEqDiff,Nat.reduceAdd,Nat.reduceLeDiff]) (by simp (disch:=first|assumption|omega|(simp (disch:=first|assumption|omega) only [sB,Nat.reduceAdd,Nat.reduceLT,Nat.reduceLeDiff,Nat.reduceEqDiff,Nat.reduceMul,↓reduceIte];done)|fail) only [sA,↓reduceIte,Nat.reduceLT,Nat.reduceEqDiff,Nat.reduceAdd,Nat.reduceLeDiff]) (by simp (disch:=first|assumption|omega|(simp (disch:=first|assumption|omega) only [sB,Nat.reduceAdd,Nat.reduceLT,Nat.reduceLeDiff,Nat.reduceEqDiff,Nat.reduceMul,↓reduceIte];done)|fail) only [sA,↓reduceIte,Nat.reduceLT,Nat.reduceEqDiff,Nat.reduceAdd,Nat.reduceLeDiff]) (by simp (disch:=first|assumption|omega|(simp (disch:=first|assumption|omega) only [sB,Nat.reduceAdd,Nat.reduceLT,Nat.reduceLeDiff,Nat.reduceEqDiff,Nat.reduceMul,↓reduceIte];done)|fail) only [sA,↓reduceIte,Nat.reduceLT,Nat.reduceEqDiff,Nat.reduceAdd,Nat.reduceLeDiff]) (by simp (disch:=first|assumption|omega|(simp (disch:=first|assumption|omega) only [sB,Nat.reduceAdd,Nat.reduceLT,Nat.reduceLeDiff,Nat.reduceEqDiff,Nat.reduceMul,↓reduceIte];done)|fail) only [sA,↓reduceIte,Nat.reduceLT,Nat.reduceEqDiff,Nat.reduceAdd,Nat.reduceLeDiff]) (by simp (disch:=first|assumption|omega|(simp (disch:=first|assumption|omega) only [sB,Nat.reduceAdd,Nat.reduceLT,Nat.reduceLeDiff,Nat.reduceEqDiff,Nat.reduceMul,↓reduceIte];done)|fail) only [sA,↓reduceIte,Nat.reduceLT,Nat.reduceEqDiff,Nat.reduceAdd,Nat.reduceLeDiff]) (by simp (disch:=first|assumption|omega|(simp (disch:=first|assumption|omega) only [sB,Nat.reduceAdd,Nat.reduceLT,Nat.reduceLeDiff,Nat.reduceEqDiff,Nat.reduceMul,↓reduceIte];done)|fail) only [sA,↓reduceIte,Nat.reduceLT,Nat.reduceEqDiff,Nat.reduceAdd,Nat.reduceLeDiff])
        rcases q with ⟨rfl,hb⟩ | ⟨rfl,hb,g6⟩
        · rw [hb]
          simp (disch:=first|assumption|omega|(simp (disch:=first|assumption|omega) only [sB,Nat.reduceAdd,Nat.reduceLT,Nat.reduceLeDiff,Nat.reduceEqDiff,Nat.reduceMul,↓reduceIte];done)|fail) only [sA,↓reduceIte,Nat.reduceLT,Nat.reduceEqDiff,Nat.reduceAdd,Nat.reduceLeDiff,finish_flat (d := .bool true) rfl (H3.mono (show n3 ≤ n3 + 1 by omega))]
        · rw [hb]
          simp (disch:=first|assumption|omega|(simp (disch:=first|assumption|omega) only [sB,Nat.reduceAdd,Nat.reduceLT,Nat.reduceLeDiff,Nat.reduceEqDiff,Nat.reduceMul,↓reduceIte];done)|fail) only [sA,↓reduceIte,Nat.reduceLT,Nat.reduceEqDiff,Nat.reduceAdd,Nat.reduceLeDiff,g6,finish_flat (d := .bool false) rfl H3]
      · rw [decide_eq_false y3,Bool.false_and]
        have y3d : (a.hid == b.hid) = false := beq_eq_false_iff_ne.2 y3
        simp (disch:=first|assumption|omega|(simp (disch:=first|assumption|omega) only [sB,Nat.reduceAdd,Nat.reduceLT,Nat.reduceLeDiff,Nat.reduceEqDiff,Nat.reduceMul,↓reduceIte,hGb];done)|fail) only [sA,↓reduceIte,Nat.reduceLT,Nat.reduceEqDiff,Nat.reduceAdd,Nat.reduceLeDiff,y1d,y3d,hGb]
  by_cases f4 : f = 4
  · subst f4
    rw [if_pos (Or.inr (Or.inl rfl))]
    cases hid with
    | false =>
      rw [Bool.not_false,Bool.true_or,Bool.true_and]
      simp (disch:=first|assumption|omega|(simp (disch:=first|assumption|omega) only [sB,Nat.reduceAdd,Nat.reduceLT,Nat.reduceLeDiff,Nat.reduceEqDiff,Nat.reduceMul,↓reduceIte,hGb];done)|fail) only [sA,↓reduceIte,Nat.reduceLT,Nat.reduceEqDiff,Nat.reduceAdd,Nat.reduceLeDiff,y1d,hGb]
      generalize hr : LX (cF Try.prog) (.loop l79_0) _ _ _ = r
      obtain ⟨x,e3,n3,h3,rfl,H3,q⟩ := tailK hr (H0.mono (by omega)) (by omega) (by simp (disch:=first|assumption|omega|(simp (disch:=first|assumption|omega) only [sB,Nat.reduceAdd,Nat.reduceLT,Nat.reduceLeDiff,Nat.reduceEqDiff,Nat.reduceMul,↓reduceIte];done)|fail) only [sA,↓reduceIte,Nat.reduceLT,Nat.reduceEqDiff,Nat.reduceAdd,Nat.reduceLeDiff]) (by simp (disch:=first|assumption|omega|(simp (disch:=first|assumption|omega) only [sB,Nat.reduceAdd,Nat.reduceLT,Nat.reduceLeDiff,Nat.reduceEqDiff,Nat.reduceMul,↓reduceIte];done)|fail) only [sA,↓reduceIte,Nat.reduceLT,Nat.reduceEqDiff,Nat.reduceAdd,Nat.reduceLeDiff]) (by simp (disch:=first|assumption|omega|(simp (disch:=first|assumption|omega) only [sB,Nat.reduceAdd,Nat.reduceLT,Nat.reduceLeDiff,Nat.reduceEqDiff,Nat.reduceMul,↓reduceIte];done)|fail) only [sA,↓reduceIte,Nat.reduceLT,Nat.reduceEqDiff,Nat.reduceAdd,Nat.reduceLeDiff]) (by simp (disch:=first|assumption|omega|(simp (disch:=first|assumption|omega) only [sB,Nat.reduceAdd,Nat.reduceLT,Nat.reduceLeDiff,Nat.reduceEqDiff,Nat.reduceMul,↓reduceIte];done)|fail) only [sA,↓reduceIte,Nat.reduceLT,Nat.reduceEqDiff,Nat.reduceAdd,Nat.reduceLeDiff]) (by simp (disch:=first|assumption|omega|(simp (disch:=first|assumption|omega) only [sB,Nat.reduceAdd,Nat.reduceLT,Nat.reduceLeDiff,Nat.reduceEqDiff,Nat.reduceMul,↓reduceIte];done)|fail) only [sA,↓reduceIte,Nat.reduceLT,Nat.reduceEqDiff,Nat.reduceAdd,Nat.reduceLeDiff]) (by simp (disch:=first|assumption|omega|(simp (disch:=first|assumption|omega) only [sB,Nat.reduceAdd,Nat.reduceLT,Nat.reduceLeDiff,Nat.reduceEqDiff,Nat.reduceMul,↓reduceIte];done)|fail) only [sA,↓reduceIte,Nat.reduceLT,Nat.reduceEqDiff,Nat.reduceAdd,Nat.reduceLeDiff]) (by simp (disch:=first|assumption|omega|(simp (disch:=first|assumption|omega) only [sB,Nat.reduceAdd,Nat.reduceLT,Nat.reduceLeDiff,Nat.reduceEqDiff,Nat.reduceMul,↓reduceIte];done)|fail) only [sA,↓reduceIte,Nat.reduceLT,Nat.reduceEqDiff,Nat.reduceAdd,Nat.reduceLeDiff])
      rcases q with ⟨rfl,hb⟩ | ⟨rfl,hb,g6⟩
      · rw [hb]
        simp (disch:=first|assumption|omega|(simp (disch:=first|assumption|omega) only [sB,Nat.reduceAdd,Nat.reduceLT,Nat.reduceLeDiff,Nat.reduceEqDiff,Nat.reduceMul,↓reduceIte];done)|fail) only [sA,↓reduceIte,Nat.reduceLT,Nat.reduceEqDiff,Nat.reduceAdd,Nat.reduceLeDiff,finish_flat (d := .bool true) rfl (H3.mono (show n3 ≤ n3 + 1 by omega))]
      · rw [hb]
        simp (disch:=first|assumption|omega|(simp (disch:=first|assumption|omega) only [sB,Nat.reduceAdd,Nat.reduceLT,Nat.reduceLeDiff,Nat.reduceEqDiff,Nat.reduceMul,↓reduceIte];done)|fail) only [sA,↓reduceIte,Nat.reduceLT,Nat.reduceEqDiff,Nat.reduceAdd,Nat.reduceLeDiff,g6,finish_flat (d := .bool false) rfl H3]
    | true =>
      rw [Bool.not_true,Bool.false_or]
      by_cases y3 : a.hid = b.hid
      · rw [decide_eq_true y3,Bool.true_and]
        have y3d : (a.hid == b.hid) = true := by rw [y3]; exact beq_self_eq_true _
        simp (disch:=first|assumption|omega|(simp (disch:=first|assumption|omega) only [sB,Nat.reduceAdd,Nat.reduceLT,Nat.reduceLeDiff,Nat.reduceEqDiff,Nat.reduceMul,↓reduceIte,hGb];done)|fail) only [sA,↓reduceIte,Nat.reduceLT,Nat.reduceEqDiff,Nat.reduceAdd,Nat.reduceLeDiff,y1d,y3d,hGb]
        generalize hr : LX (cF Try.prog) (.loop l79_0) _ _ _ = r
        obtain ⟨x,e3,n3,h3,rfl,H3,q⟩ := tailK hr (H0.mono (by omega)) (by omega) (by simp (disch:=first|assumption|omega|(simp (disch:=first|assumption|omega) only [sB,Nat.reduceAdd,Nat.reduceLT,Nat.reduceLeDiff,Nat.reduceEqDiff,Nat.reduceMul,↓reduceIte];done)|fail) only [sA,↓reduceIte,Nat.reduceLT,Nat.reduceEqDiff,Nat.reduceAdd,Nat.reduceLeDiff]) (by simp (disch:=first|assumption|omega|(simp (disch:=first|assumption|omega) only [sB,Nat.reduceAdd,Nat.reduceLT,Nat.reduceLeDiff,Nat.reduceEqDiff,Nat.reduceMul,↓reduceIte];done)|fail) only [sA,↓reduceIte,Nat.reduceLT,Nat.reduceEqDiff,Nat.reduceAdd,Nat.reduceLeDiff]) (by simp (disch:=first|assumption|omega|(simp (disch:=first|assumption|omega) only [sB,Nat.reduceAdd,Nat.reduceLT,Nat.reduceLeDiff,Nat.reduceEqDiff,Nat.reduceMul,↓reduceIte];done)|fail) only [sA,↓reduceIte,Nat.reduceLT,Nat.reduceEqDiff,Nat.reduceAdd,Nat.reduceLeDiff]) (by simp (disch:=first|assumption|omega|(simp (disch:=first|assumption|omega) only [sB,Nat.reduceAdd,Nat.reduceLT,Nat.reduceLeDiff,Nat.reduceEqDiff,Nat.reduceMul,↓reduceIte];done)|fail) only [sA,↓reduceIte,Nat.reduceLT,Nat.reduceEqDiff,Nat.reduceAdd,Nat.reduceLeDiff]) (by simp (disch:=first|assumption|omega|(simp (disch:=first|assumption|omega) only [sB,Nat.reduceAdd,Nat.reduceLT,Nat.reduceLeDiff,Nat.reduceEqDiff,Nat.reduceMul,↓reduceIte];done)|fail) only [sA,↓reduceIte,Nat.reduceLT,Nat.reduceEqDiff,Nat.reduceAdd,Nat.reduceLeDiff]) (by simp (disch:=first|assumption|omega|(simp (disch:=first|assumption|omega) only [sB,Nat.reduceAdd,Nat.reduceLT,Nat.reduceLeDiff,Nat.reduceEqDiff,Nat.reduceMul,↓reduceIte];done)|fail) only [sA,↓reduceIte,Nat.reduceLT,Nat.reduceEqDiff,Nat.reduceAdd,Nat.reduceLeDiff]) (by simp (disch:=first|assumption|omega|(simp (disch:=first|assumption|omega) only [sB,Nat.reduceAdd,Nat.reduceLT,Nat.reduceLeDiff,Nat.reduceEqDiff,Nat.reduceMul,↓reduceIte];done)|fail) only [sA,↓reduceIte,Nat.reduceLT,Nat.reduceEqDiff,Nat.reduceAdd,Nat.reduceLeDiff])
        rcases q with ⟨rfl,hb⟩ | ⟨rfl,hb,g6⟩
        · rw [hb]
          simp (disch:=first|assumption|omega|(simp (disch:=first|assumption|omega) only [sB,Nat.reduceAdd,Nat.reduceLT,Nat.reduceLeDiff,Nat.reduceEqDiff,Nat.reduceMul,↓reduceIte];done)|fail) only [sA,↓reduceIte,Nat.reduceLT,Nat.reduceEqDiff,Nat.reduceAdd,Nat.reduceLeDiff,finish_flat (d := .bool true) rfl (H3.mono (show n3 ≤ n3 + 1 by omega))]
        · rw [hb]
          simp (disch:=first|assumption|omega|(simp (disch:=first|assumption|omega) only [sB,Nat.reduceAdd,Nat.reduceLT,Nat.reduceLeDiff,Nat.reduceEqDiff,Nat.reduceMul,↓reduceIte];done)|fail) only [sA,↓reduceIte,Nat.reduceLT,Nat.reduceEqDiff,Nat.reduceAdd,Nat.reduceLeDiff,g6,finish_flat (d := .bool false) rfl H3]
      · rw [decide_eq_false y3,Bool.false_and]
        have y3d : (a.hid == b.hid) = false := beq_eq_false_iff_ne.2 y3
        simp (disch:=first|assumption|omega|(simp (disch:=first|assumption|omega) only [sB,Nat.reduceAdd,Nat.reduceLT,Nat.reduceLeDiff,Nat.reduceEqDiff,Nat.reduceMul,↓reduceIte,hGb];done)|fail) only [sA,↓reduceIte,Nat.reduceLT,Nat.reduceEqDiff,Nat.reduceAdd,Nat.reduceLeDiff,y1d,y3d,hGb]
  by_cases f5 : f = 5
  · subst f5
    rw [if_pos (Or.inr (Or.inr rfl))]
    cases hid with
    | false =>
      rw [Bool.not_false,Bool.true_or,Bool.true_and]
      simp (disch:=first|assumption|omega|(simp (disch:=first|assumption|omega) only [sB,Nat.reduceAdd,Nat.reduceLT,Nat.reduceLeDiff,Nat.reduceEqDiff,Nat.reduceMul,↓reduceIte,hGb];done)|fail) only [sA,↓reduceIte,Nat.reduceLT,Nat.reduceEqDiff,Nat.reduceAdd,Nat.reduceLeDiff,y1d,hGb]
      generalize hr : LX (cF Try.prog) (.loop l79_0) _ _ _ = r
      obtain ⟨x,e3,n3,h3,rfl,H3,q⟩ := tailK hr (H0.mono (by omega)) (by omega) (by simp (disch:=first|assumption|omega|(simp (disch:=first|assumption|omega) only [sB,Nat.reduceAdd,Nat.reduceLT,Nat.reduceLeDiff,Nat.reduceEqDiff,Nat.reduceMul,↓reduceIte];done)|fail) only [sA,↓reduceIte,Nat.reduceLT,Nat.reduceEqDiff,Nat.reduceAdd,Nat.reduceLeDiff]) (by simp (disch:=first|assumption|omega|(simp (disch:=first|assumption|omega) only [sB,Nat.reduceAdd,Nat.reduceLT,Nat.reduceLeDiff,Nat.reduceEqDiff,Nat.reduceMul,↓reduceIte];done)|fail) only [sA,↓reduceIte,Nat.reduceLT,Nat.reduceEqDiff,Nat.reduceAdd,Nat.reduceLeDiff]) (by simp (disch:=first|assumption|omega|(simp (disch:=first|assumption|omega) only [sB,Nat.reduceAdd,Nat.reduceLT,Nat.reduceLeDiff,Nat.reduceEqDiff,Nat.reduceMul,↓reduceIte];done)|fail) only [sA,↓reduceIte,Nat.reduceLT,Nat.reduceEqDiff,Nat.reduceAdd,Nat.reduceLeDiff]) (by simp (disch:=first|assumption|omega|(simp (disch:=first|assumption|omega) only [sB,Nat.reduceAdd,Nat.reduceLT,Nat.reduceLeDiff,Nat.reduceEqDiff,Nat.reduceMul,↓reduceIte];done)|fail) only [sA,↓reduceIte,Nat.reduceLT,Nat.reduceEqDiff,Nat.reduceAdd,Nat.reduceLeDiff]) (by simp (disch:=first|assumption|omega|(simp (disch:=first|assumption|omega) only [sB,Nat.reduceAdd,Nat.reduceLT,Nat.reduceLeDiff,Nat.reduceEqDiff,Nat.reduceMul,↓reduceIte];done)|fail) only [sA,↓reduceIte,Nat.reduceLT,Nat.reduceEqDiff,Nat.reduceAdd,Nat.reduceLeDiff]) (by simp (disch:=first|assumption|omega|(simp (disch:=first|assumption|omega) only [sB,Nat.reduceAdd,Nat.reduceLT,Nat.reduceLeDiff,Nat.reduceEqDiff,Nat.reduceMul,↓reduceIte];done)|fail) only [sA,↓reduceIte,Nat.reduceLT,Nat.reduceEqDiff,Nat.reduceAdd,Nat.reduceLeDiff]) (by simp (disch:=first|assumption|omega|(simp (disch:=first|assumption|omega) only [sB,Nat.reduceAdd,Nat.reduceLT,Nat.reduceLeDiff,Nat.reduceEqDiff,Nat.reduceMul,↓reduceIte];done)|fail) only [sA,↓reduceIte,Nat.reduceLT,Nat.reduceEqDiff,Nat.reduceAdd,Nat.reduceLeDiff])
      rcases q with ⟨rfl,hb⟩ | ⟨rfl,hb,g6⟩
      · rw [hb]
        simp (disch:=first|assumption|omega|(simp (disch:=first|assumption|omega) only [sB,Nat.reduceAdd,Nat.reduceLT,Nat.reduceLeDiff,Nat.reduceEqDiff,Nat.reduceMul,↓reduceIte];done)|fail) only [sA,↓reduceIte,Nat.reduceLT,Nat.reduceEqDiff,Nat.reduceAdd,Nat.reduceLeDiff,finish_flat (d := .bool true) rfl (H3.mono (show n3 ≤ n3 + 1 by omega))]
      · rw [hb]
        simp (disch:=first|assumption|omega|(simp (disch:=first|assumption|omega) only [sB,Nat.reduceAdd,Nat.reduceLT,Nat.reduceLeDiff,Nat.reduceEqDiff,Nat.reduceMul,↓reduceIte];done)|fail) only [sA,↓reduceIte,Nat.reduceLT,Nat.reduceEqDiff,Nat.reduceAdd,Nat.reduceLeDiff,g6,finish_flat (d := .bool false) rfl H3]
    | true =>
      rw [Bool.not_true,Bool.false_or]
      by_cases y3 : a.hid = b.hid
      · rw [decide_eq_true y3,Bool.true_and]
        have y3d : (a.hid == b.hid) = true := by rw [y3]; exact beq_self_eq_true _
        simp (disch:=first|assumption|omega|(simp (disch:=first|assumption|omega) only [sB,Nat.reduceAdd,Nat.reduceLT,Nat.reduceLeDiff,Nat.reduceEqDiff,Nat.reduceMul,↓reduceIte,hGb];done)|fail) only [sA,↓reduceIte,Nat.reduceLT,Nat.reduceEqDiff,Nat.reduceAdd,Nat.reduceLeDiff,y1d,y3d,hGb]
        generalize hr : LX (cF Try.prog) (.loop l79_0) _ _ _ = r
        obtain ⟨x,e3,n3,h3,rfl,H3,q⟩ := tailK hr (H0.mono (by omega)) (by omega) (by simp (disch:=first|assumption|omega|(simp (disch:=first|assumption|omega) only [sB,Nat.reduceAdd,Nat.reduceLT,Nat.reduceLeDiff,Nat.reduceEqDiff,Nat.reduceMul,↓reduceIte];done)|fail) only [sA,↓reduceIte,Nat.reduceLT,Nat.reduceEqDiff,Nat.reduceAdd,Nat.reduceLeDiff]) (by simp (disch:=first|assumption|omega|(simp (disch:=first|assumption|omega) only [sB,Nat.reduceAdd,Nat.reduceLT,Nat.reduceLeDiff,Nat.reduceEqDiff,Nat.reduceMul,↓reduceIte];done)|fail) only [sA,↓reduceIte,Nat.reduceLT,Nat.reduceEqDiff,Nat.reduceAdd,Nat.reduceLeDiff]) (by simp (disch:=first|assumption|omega|(simp (disch:=first|assumption|omega) only [sB,Nat.reduceAdd,Nat.reduceLT,Nat.reduceLeDiff,Nat.reduceEqDiff,Nat.reduceMul,↓reduceIte];done)|fail) only [sA,↓reduceIte,Nat.reduceLT,Nat.reduceEqDiff,Nat.reduceAdd,Nat.reduceLeDiff]) (by simp (disch:=first|assumption|omega|(simp (disch:=first|assumption|omega) only [sB,Nat.reduceAdd,Nat.reduceLT,Nat.reduceLeDiff,Nat.reduceEqDiff,Nat.reduceMul,↓reduceIte];done)|fail) only [sA,↓reduceIte,Nat.reduceLT,Nat.reduceEqDiff,Nat.reduceAdd,Nat.reduceLeDiff]) (by simp (disch:=first|assumption|omega|(simp (disch:=first|assumption|omega) only [sB,Nat.reduceAdd,Nat.reduceLT,Nat.reduceLeDiff,Nat.reduceEqDiff,Nat.reduceMul,↓reduceIte];done)|fail) only [sA,↓reduceIte,Nat.reduceLT,Nat.reduceEqDiff,Nat.reduceAdd,Nat.reduceLeDiff]) (by simp (disch:=first|assumption|omega|(simp (disch:=first|assumption|omega) only [sB,Nat.reduceAdd,Nat.reduceLT,Nat.reduceLeDiff,Nat.reduceEqDiff,Nat.reduceMul,↓reduceIte];done)|fail) only [sA,↓reduceIte,Nat.reduceLT,Nat.reduceEqDiff,Nat.reduceAdd,Nat.reduceLeDiff]) (by simp (disch:=first|assumption|omega|(simp (disch:=first|assumption|omega) only [sB,Nat.reduceAdd,Nat.reduceLT,Nat.reduceLeDiff,Nat.reduceEqDiff,Nat.reduceMul,↓reduceIte];done)|fail) only [sA,↓reduceIte,Nat.reduceLT,Nat.reduceEqDiff,Nat.reduceAdd,Nat.reduceLeDiff])
        rcases q with ⟨rfl,hb⟩ | ⟨rfl,hb,g6⟩
        · rw [hb]
          simp (disch:=first|assumption|omega|(simp (disch:=first|assumption|omega) only [sB,Nat.reduceAdd,Nat.reduceLT,Nat.reduceLeDiff,Nat.reduceEqDiff,Nat.reduceMul,↓reduceIte];done)|fail) only [sA,↓reduceIte,Nat.reduceLT,Nat.reduceEqDiff,Nat.reduceAdd,Nat.reduceLeDiff,finish_flat (d := .bool true) rfl (H3.mono (show n3 ≤ n3 + 1 by omega))]
        · rw [hb]
          simp (disch:=first|assumption|omega|(simp (disch:=first|assumption|omega) only [sB,Nat.reduceAdd,Nat.reduceLT,Nat.reduceLeDiff,Nat.reduceEqDiff,Nat.reduceMul,↓reduceIte];done)|fail) only [sA,↓reduceIte,Nat.reduceLT,Nat.reduceEqDiff,Nat.reduceAdd,Nat.reduceLeDiff,g6,finish_flat (d := .bool false) rfl H3]
      · rw [decide_eq_false y3,Bool.false_and]
        have y3d : (a.hid == b.hid) = false := beq_eq_false_iff_ne.2 y3
        simp (disch:=first|assumption|omega|(simp (disch:=first|assumption|omega) only [sB,Nat.reduceAdd,Nat.reduceLT,Nat.reduceLeDiff,Nat.reduceEqDiff,Nat.reduceMul,↓reduceIte,hGb];done)|fail) only [sA,↓reduceIte,Nat.reduceLT,Nat.reduceEqDiff,Nat.reduceAdd,Nat.reduceLeDiff,y1d,y3d,hGb]
  rw [if_neg (by omega)]
  by_cases f2 : f = 2
  · subst f2
    rw [if_pos rfl]
    replace cl := cl (Or.inl rfl) rfl
    cases L with
    | true =>
      rw [Bool.true_and]
      simp (disch:=first|assumption|omega|(simp (disch:=first|assumption|omega) only [sB,Nat.reduceAdd,Nat.reduceLT,Nat.reduceLeDiff,Nat.reduceEqDiff,Nat.reduceMul,↓reduceIte,hGb];done)|fail) only [sA,↓reduceIte,Nat.reduceLT,Nat.reduceEqDiff,Nat.reduceAdd,Nat.reduceLeDiff,y1d,cl,hGb]
      generalize hr : LX (cF Try.prog) (.loop l79_0) _ _ _ = r
      obtain ⟨x,e3,n3,h3,rfl,H3,q⟩ := tailK hr (H0.mono (by omega)) (by omega) (by simp (disch:=first|assumption|omega|(simp (disch:=first|assumption|omega) only [sB,Nat.reduceAdd,Nat.reduceLT,Nat.reduceLeDiff,Nat.reduceEqDiff,Nat.reduceMul,↓reduceIte];done)|fail) only [sA,↓reduceIte,Nat.reduceLT,Nat.reduceEqDiff,Nat.reduceAdd,Nat.reduceLeDiff]) (by simp (disch:=first|assumption|omega|(simp (disch:=first|assumption|omega) only [sB,Nat.reduceAdd,Nat.reduceLT,Nat.reduceLeDiff,Nat.reduceEqDiff,Nat.reduceMul,↓reduceIte];done)|fail) only [sA,↓reduceIte,Nat.reduceLT,Nat.reduceEqDiff,Nat.reduceAdd,Nat.reduceLeDiff]) (by simp (disch:=first|assumption|omega|(simp (disch:=first|assumption|omega) only [sB,Nat.reduceAdd,Nat.reduceLT,Nat.reduceLeDiff,Nat.reduceEqDiff,Nat.reduceMul,↓reduceIte];done)|fail) only [sA,↓reduceIte,Nat.reduceLT,Nat.reduceEqDiff,Nat.reduceAdd,Nat.reduceLeDiff]) (by simp (disch:=first|assumption|omega|(simp (disch:=first|assumption|omega) only [sB,Nat.reduceAdd,Nat.reduceLT,Nat.reduceLeDiff,Nat.reduceEqDiff,Nat.reduceMul,↓reduceIte];done)|fail) only [sA,↓reduceIte,Nat.reduceLT,Nat.reduceEqDiff,Nat.reduceAdd,Nat.reduceLeDiff]) (by simp (disch:=first|assumption|omega|(simp (disch:=first|assumption|omega) only [sB,Nat.reduceAdd,Nat.reduceLT,Nat.reduceLeDiff,Nat.reduceEqDiff,Nat.reduceMul,↓reduceIte];done)|fail) only [sA,↓reduceIte,Nat.reduceLT,Nat.reduceEqDiff,Nat.reduceAdd,Nat.reduceLeDiff]) (by simp (disch:=first|assumption|omega|(simp (disch:=first|assumption|omega) only [sB,Nat.reduceAdd,Nat.reduceLT,Nat.reduceLeDiff,Nat.reduceEqDiff,Nat.reduceMul,↓reduceIte];done)|fail) only [sA,↓reduceIte,Nat.reduceLT,Nat.reduceEqDiff,Nat.reduceAdd,Nat.reduceLeDiff]) (by simp (disch:=first|assumption|omega|(simp (disch:=first|assumption|omega) only [sB,Nat.reduceAdd,Nat.reduceLT,Nat.reduceLeDiff,Nat.reduceEqDiff,Nat.reduceMul,↓reduceIte];done)|fail) only [sA,↓reduceIte,Nat.reduceLT,Nat.reduceEqDiff,Nat.reduceAdd,Nat.reduceLeDiff])
      rcases q with ⟨rfl,hb⟩ | ⟨rfl,hb,g6⟩
      · rw [hb]
        simp (disch:=first|assumption|omega|(simp (disch:=first|assumption|omega) only [sB,Nat.reduceAdd,Nat.reduceLT,Nat.reduceLeDiff,Nat.reduceEqDiff,Nat.reduceMul,↓reduceIte];done)|fail) only [sA,↓reduceIte,Nat.reduceLT,Nat.reduceEqDiff,Nat.reduceAdd,Nat.reduceLeDiff,finish_flat (d := .bool true) rfl (H3.mono (show n3 ≤ n3 + 1 by omega))]
      · rw [hb]
        simp (disch:=first|assumption|omega|(simp (disch:=first|assumption|omega) only [sB,Nat.reduceAdd,Nat.reduceLT,Nat.reduceLeDiff,Nat.reduceEqDiff,Nat.reduceMul,↓reduceIte];done)|fail) only [sA,↓reduceIte,Nat.reduceLT,Nat.reduceEqDiff,Nat.reduceAdd,Nat.reduceLeDiff,g6,finish_flat (d := .bool false) rfl H3]
    | false =>
      rw [Bool.false_and]
      simp (disch:=first|assumption|omega|(simp (disch:=first|assumption|omega) only [sB,Nat.reduceAdd,Nat.reduceLT,Nat.reduceLeDiff,Nat.reduceEqDiff,Nat.reduceMul,↓reduceIte,hGb];done)|fail) only [sA,↓reduceIte,Nat.reduceLT,Nat.reduceEqDiff,Nat.reduceAdd,Nat.reduceLeDiff,y1d,cl,hGb]
  rw [if_neg f2]
  by_cases f10 : f = 10
  · subst f10
    rw [if_pos rfl]
    replace cl := cl (Or.inr rfl) rfl
    by_cases y3 : a.name = b.name
    · rw [decide_eq_true y3,Bool.true_and]
      have y3' : decide (a.name = b.name) = true := decide_eq_true y3
      cases L with
      | true =>
        rw [Bool.true_and]
        simp (disch:=first|assumption|omega|(simp (disch:=first|assumption|omega) only [sB,Nat.reduceAdd,Nat.reduceLT,Nat.reduceLeDiff,Nat.reduceEqDiff,Nat.reduceMul,↓reduceIte,hGb];done)|fail) only [sA,↓reduceIte,Nat.reduceLT,Nat.reduceEqDiff,Nat.reduceAdd,Nat.reduceLeDiff,y1d,y3',str_neq,cl,hGb]
        generalize hr : LX (cF Try.prog) (.loop l79_0) _ _ _ = r
        obtain ⟨x,e3,n3,h3,rfl,H3,q⟩ := tailK hr (H0.mono (by omega)) (by omega) (by simp (disch:=first|assumption|omega|(simp (disch:=first|assumption|omega) only [sB,Nat.reduceAdd,Nat.reduceLT,Nat.reduceLeDiff,Nat.reduceEqDiff,Nat.reduceMul,↓reduceIte];done)|fail) only [sA,↓reduceIte,Nat.reduceLT,Nat.reduceEqDiff,Nat.reduceAdd,Nat.reduceLeDiff]) (by simp (disch:=first|assumption|omega|(simp (disch:=first|assumption|omega) only [sB,Nat.reduceAdd,Nat.reduceLT,Nat.reduceLeDiff,Nat.reduceEqDiff,Nat.reduceMul,↓reduceIte];done)|fail) only [sA,↓reduceIte,Nat.reduceLT,Nat.reduceEqDiff,Nat.reduceAdd,Nat.reduceLeDiff]) (by simp (disch:=first|assumption|omega|(simp (disch:=first|assumption|omega) only [sB,Nat.reduceAdd,Nat.reduceLT,Nat.reduceLeDiff,Nat.reduceEqDiff,Nat.reduceMul,↓reduceIte];done)|fail) only [sA,↓reduceIte,Nat.reduceLT,Nat.reduceEqDiff,Nat.reduceAdd,Nat.reduceLeDiff]) (by simp (disch:=first|assumption|omega|(simp (disch:=first|assumption|omega) only [sB,Nat.reduceAdd,Nat.reduceLT,Nat.reduceLeDiff,Nat.reduceEqDiff,Nat.reduceMul,↓reduceIte];done)|fail) only [sA,↓reduceIte,Nat.reduceLT,Nat.reduceEqDiff,Nat.reduceAdd,Nat.reduceLeDiff]) (by simp (disch:=first|assumption|omega|(simp (disch:=first|assumption|omega) only [sB,Nat.reduceAdd,Nat.reduceLT,Nat.reduceLeDiff,Nat.reduceEqDiff,Nat.reduceMul,↓reduceIte];done)|fail) only [sA,↓reduceIte,Nat.reduceLT,Nat.reduceEqDiff,Nat.reduceAdd,Nat.reduceLeDiff]) (by simp (disch:=first|assumption|omega|(simp (disch:=first|assumption|omega) only [sB,Nat.reduceAdd,Nat.reduceLT,Nat.reduceLeDiff,Nat.reduceEqDiff,Nat.reduceMul,↓reduceIte];done)|fail) only [sA,↓reduceIte,Nat.reduceLT,Nat.reduceEqDiff,Nat.reduceAdd,Nat.reduceLeDiff]) (by simp (disch:=first|assumption|omega|(simp (disch:=first|assumption|omega) only [sB,Nat.reduceAdd,Nat.reduceLT,Nat.reduceLeDiff,Nat.reduceEqDiff,Nat.reduceMul,↓reduceIte];done)|fail) only [sA,↓reduceIte,Nat.reduceLT,Nat.reduceEqDiff,Nat.reduceAdd,Nat.reduceLeDiff])
        rcases q with ⟨rfl,hb⟩ | ⟨rfl,hb,g6⟩
        · rw [hb]
          simp (disch:=first|assumption|omega|(simp (disch:=first|assumption|omega) only [sB,Nat.reduceAdd,Nat.reduceLT,Nat.reduceLeDiff,Nat.reduceEqDiff,Nat.reduceMul,↓reduceIte];done)|fail) only [sA,↓reduceIte,Nat.reduceLT,Nat.reduceEqDiff,Nat.reduceAdd,Nat.reduceLeDiff,finish_flat (d := .bool true) rfl (H3.mono (show n3 ≤ n3 + 1 by omega))]
        · rw [hb]
          simp (disch:=first|assumption|omega|(simp (disch:=first|assumption|omega) only [sB,Nat.reduceAdd,Nat.reduceLT,Nat.reduceLeDiff,Nat.reduceEqDiff,Nat.reduceMul,↓reduceIte];done)|fail) only [sA,↓reduceIte,Nat.reduceLT,Nat.reduceEqDiff,Nat.reduceAdd,Nat.reduceLeDiff,g6,finish_flat (d := .bool false) rfl H3]
      | false =>
        rw [Bool.false_and]
        simp (disch:=first|assumption|omega|(simp (disch:=first|assumption|omega) only [sB,Nat.reduceAdd,Nat.reduceLT,Nat.reduceLeDiff,Nat.reduceEqDiff,Nat.reduceMul,↓reduceIte,hGb];done)|fail) only [sA,↓reduceIte,Nat.reduceLT,Nat.reduceEqDiff,Nat.reduceAdd,Nat.reduceLeDiff,y1d,y3',str_neq,cl,hGb]
    · rw [decide_eq_false y3,Bool.false_and,Bool.false_and]
      have y3' : decide (a.name = b.name) = false := decide_eq_false y3
      simp (disch:=first|assumption|omega|(simp (disch:=first|assumption|omega) only [sB,Nat.reduceAdd,Nat.reduceLT,Nat.reduceLeDiff,Nat.reduceEqDiff,Nat.reduceMul,↓reduceIte,hGb];done)|fail) only [sA,↓reduceIte,Nat.reduceLT,Nat.reduceEqDiff,Nat.reduceAdd,Nat.reduceLeDiff,y1d,y3',str_neq,hGb]
  rw [if_neg f10,Bool.true_and]
  simp (disch:=first|assumption|omega|(simp (disch:=first|assumption|omega) only [sB,Nat.reduceAdd,Nat.reduceLT,Nat.reduceLeDiff,Nat.reduceEqDiff,Nat.reduceMul,↓reduceIte,hGb];done)|fail) only [sA,↓reduceIte,Nat.reduceLT,Nat.reduceEqDiff,Nat.reduceAdd,Nat.reduceLeDiff,y1d,f1,f2,f3,f4,f5,f10,f11,hGb]
  generalize hr : LX (cF Try.prog) (.loop l79_0) _ _ _ = r
  obtain ⟨x,e3,n3,h3,rfl,H3,q⟩ := tailK hr (H0.mono (by omega)) (by omega) (by simp (disch:=first|assumption|omega|(simp (disch:=first|assumption|omega) only [sB,Nat.reduceAdd,Nat.reduceLT,Nat.reduceLeDiff,Nat.reduceEqDiff,Nat.reduceMul,↓reduceIte];done)|fail) only [sA,↓reduceIte,Nat.reduceLT,Nat.reduceEqDiff,Nat.reduceAdd,Nat.reduceLeDiff]) (by simp (disch:=first|assumption|omega|(simp (disch:=first|assumption|omega) only [sB,Nat.reduceAdd,Nat.reduceLT,Nat.reduceLeDiff,Nat.reduceEqDiff,Nat.reduceMul,↓reduceIte];done)|fail) only [sA,↓reduceIte,Nat.reduceLT,Nat.reduceEqDiff,Nat.reduceAdd,Nat.reduceLeDiff]) (by simp (disch:=first|assumption|omega|(simp (disch:=first|assumption|omega) only [sB,Nat.reduceAdd,Nat.reduceLT,Nat.reduceLeDiff,Nat.reduceEqDiff,Nat.reduceMul,↓reduceIte];done)|fail) only [sA,↓reduceIte,Nat.reduceLT,Nat.reduceEqDiff,Nat.reduceAdd,Nat.reduceLeDiff]) (by simp (disch:=first|assumption|omega|(simp (disch:=first|assumption|omega) only [sB,Nat.reduceAdd,Nat.reduceLT,Nat.reduceLeDiff,Nat.reduceEqDiff,Nat.reduceMul,↓reduceIte];done)|fail) only [sA,↓reduceIte,Nat.reduceLT,Nat.reduceEqDiff,Nat.reduceAdd,Nat.reduceLeDiff]) (by simp (disch:=first|assumption|omega|(simp (disch:=first|assumption|omega) only [sB,Nat.reduceAdd,Nat.reduceLT,Nat.reduceLeDiff,Nat.reduceEqDiff,Nat.reduceMul,↓reduceIte];done)|fail) only [sA,↓reduceIte,Nat.reduceLT,Nat.reduceEqDiff,Nat.reduceAdd,Nat.reduceLeDiff]) (by simp (disch:=first|assumption|omega|(simp (disch:=first|assumption|omega) only [sB,Nat.reduceAdd,Nat.reduceLT,Nat.reduceLeDiff,Nat.reduceEqDiff,Nat.reduceMul,↓reduceIte];done)|fail) only [sA,↓reduceIte,Nat.reduceLT,Nat.reduceEqDiff,Nat.reduceAdd,Nat.reduceLeDiff]) (by simp (disch:=first|assumption|omega|(simp (disch:=first|assumption|omega) only [sB,Nat.reduceAdd,Nat.reduceLT,Nat.reduceLeDiff,Nat.reduceEqDiff,Nat.reduceMul,↓reduceIte];done)|fail) only [sA,↓reduceIte,Nat.reduceLT,Nat.reduceEqDiff,Nat.reduceAdd,Nat.reduceLeDiff])
  rcases q with ⟨rfl,hb⟩ | ⟨rfl,hb,g6⟩
  · rw [hb]
    simp (disch:=first|assumption|omega|(simp (disch:=first|assumption|omega) only [sB,Nat.reduceAdd,Nat.reduceLT,Nat.reduceLeDiff,Nat.reduceEqDiff,Nat.reduceMul,↓reduceIte];done)|fail) only [sA,↓reduceIte,Nat.reduceLT,Nat.reduceEqDiff,Nat.reduceAdd,Nat.reduceLeDiff,finish_flat (d := .bool true) rfl (H3.mono (show n3 ≤ n3 + 1 by omega))]
  · rw [hb]
    simp (disch:=first|assumption|omega|(simp (disch:=first|assumption|omega) only [sB,Nat.reduceAdd,Nat.reduceLT,Nat.reduceLeDiff,Nat.reduceEqDiff,Nat.reduceMul,↓reduceIte];done)|fail) only [sA,↓reduceIte,Nat.reduceLT,Nat.reduceEqDiff,Nat.reduceAdd,Nat.reduceLeDiff,g6,finish_flat (d := .bool false) rfl H3]

set_option maxHeartbeats 4000000 in
theorem pSame (a b : Tm) (sa : saneT a.abs = true) (sb : saneT b.abs = true) (n : Nat) (h : Hps) (hg : Gd n h) : callFn (LX (cF Try.prog)) n h [(D.agg [.int .i64 (a).form,.int .i64 (a).n,.bool (a).hid,.str (a).name,slD 2 encL (a).levels,slD 6 encT (a).kids]),(D.agg [.int .i64 (b).form,.int .i64 (b).n,.bool (b).hid,.str (b).name,slD 2 encL (b).levels,slD 6 encT (b).kids])] (cF Try.prog 41) = .ok (.bool (goodT a.abs && goodT b.abs && sameT true a.abs b.abs)) n h := by
  have hgn := hg n (Nat.le_refl _)
  have hG : ∀ m,n ≤ m → Gd m h := fun m hm => Gd.mono hg hm
  have ca : ∀ m h,Gd m h → callFn (LX (cF Try.prog)) m h [(D.agg [.int .i64 (a).form,.int .i64 (a).n,.bool (a).hid,.str (a).name,slD 2 encL (a).levels,slD 6 encT (a).kids])] (cF Try.prog 22) = .ok (.int .i64 (checkT a.abs)) m h := pCheck a sa
  have cb : ∀ m h,Gd m h → callFn (LX (cF Try.prog)) m h [(D.agg [.int .i64 (b).form,.int .i64 (b).n,.bool (b).hid,.str (b).name,slD 2 encL (b).levels,slD 6 encT (b).kids])] (cF Try.prog 22) = .ok (.int .i64 (checkT b.abs)) m h := pCheck b sb
  rw [f41_eq]; unfold c41; rw [callFn_eq (by rfl)]
  by_cases y1 : checkT a.abs = 0
  · have g1 := check_ok.1 y1
    rw [g1,Bool.true_and]
    rw [y1] at ca
    by_cases y2 : checkT b.abs = 0
    · have g2 := check_ok.1 y2
      rw [g2,Bool.true_and]
      rw [y2] at cb
      have f1 : formedT a.abs = true := by unfold goodT at g1; rw [Bool.and_eq_true] at g1; exact g1.2
      have f2 : formedT b.abs = true := by unfold goodT at g2; rw [Bool.and_eq_true] at g2; exact g2.2
      have c1 := pSameT true a f1 sa b f2
      simp (disch:=first|assumption|omega|(simp (disch:=first|assumption|omega) only [sB,Nat.reduceAdd,Nat.reduceLT,Nat.reduceLeDiff,Nat.reduceEqDiff,Nat.reduceMul,↓reduceIte,hG,gd_tm];done)|fail) only [sA,↓reduceIte,Nat.reduceLT,Nat.reduceEqDiff,Nat.reduceAdd,Nat.reduceLeDiff,ca,cb,c1,hG,gd_tm]
    · rw [show goodT b.abs = false by cases hb : goodT b.abs; rfl; exact absurd (check_ok.2 hb) y2,Bool.false_and]
      generalize checkT b.abs = C at cb y2
      simp (disch:=first|assumption|omega|(simp (disch:=first|assumption|omega) only [sB,Nat.reduceAdd,Nat.reduceLT,Nat.reduceLeDiff,Nat.reduceEqDiff,Nat.reduceMul,↓reduceIte,hG,gd_tm];done)|fail) only [sA,↓reduceIte,Nat.reduceLT,Nat.reduceEqDiff,Nat.reduceAdd,Nat.reduceLeDiff,ca,cb,y2,hG,gd_tm]
  · rw [show goodT a.abs = false by cases hb : goodT a.abs; rfl; exact absurd (check_ok.2 hb) y1,Bool.false_and,Bool.false_and]
    generalize checkT a.abs = C at ca y1
    simp (disch:=first|assumption|omega|(simp (disch:=first|assumption|omega) only [sB,Nat.reduceAdd,Nat.reduceLT,Nat.reduceLeDiff,Nat.reduceEqDiff,Nat.reduceMul,↓reduceIte,hG,gd_tm];done)|fail) only [sA,↓reduceIte,Nat.reduceLT,Nat.reduceEqDiff,Nat.reduceAdd,Nat.reduceLeDiff,ca,y1,hG,gd_tm]
end Go.Proofs.Ytdijijblccmfbaa
