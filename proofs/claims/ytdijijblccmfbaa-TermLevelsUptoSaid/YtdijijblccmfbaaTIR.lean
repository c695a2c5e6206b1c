/- The reference's way to put levels in for variables, and what the numbers are then. No condition but lengths below 10^12. -/
import Derived.Test.YtdijijblccmfbaaTIQ
import Derived.Test.YtdijijblccmfbaaLC
import Derived.Test.YtdijijblccmfbaaA41
set_option linter.unusedSimpArgs false
set_option linter.unusedVariables false
namespace Go.Proofs.Ytdijijblccmfbaa
open Go
open Nat (reduceAdd reduceLT reduceLeDiff reduceEqDiff reduceMul)

set_option maxHeartbeats 4000000 in
theorem refPut (n : Nat) (h : Hps) {q9 q11 q12 n0 : Nat} {e : Tr} {h' : Hps} {r : Re} (hr : LX (cF Try.prog) (.loop l117_1) e n0 h' = r) (H : Hp n h n0 h') (h9 : n ≤ q9) (h11 : q9 < q11) (h12 : q11 < q12) (h0 : q12 < n0)
    (K va vb Xn : Int) (Xv Ov : List LV) (dd : D) (hX : Xv.length ≤ 64) (hO : Ov.length ≤ 10000) (hXv : ∀ p,p ∈ Xv → 0 ≤ p.2 ∧ p.2 ≤ 1000) (hvb : 0 ≤ vb ∧ vb ≤ 1000)
    (b9 : getO h' q9 = (Ob.row 2 [.agg [.int .i64 (K),dd]])) (b11 : getO h' q11 = .row 2 [.agg [.int .i64 va,.int .i64 vb]]) (b12 : getO h' q12 = (Ob.row 2 [.agg [.int .i64 (Xn),slD 2 encV (Sl.app Xv)]])) (B : Bld 2 encV (q9 + 1) Ov h' dd) (o11 : off q11 dd) (o12 : off q12 dd)
    (g9 : get (po 9) e = .ptr q9 0 0) (g11 : get (po 11) e = .ptr q11 0 0) (g12 : get (po 12) e = .ptr q12 0 0) (g13 : get (po 13) e = .int .i64 0) :
    ∃ x e' n' h'',r = .ok x e' n' h'' ∧ x = .exit 4 ∧ Hp n h n' h'' ∧ n0 ≤ n' ∧ (∀ q,q < n0 → q ≠ q9 → off q dd → getO h'' q = getO h' q) ∧ (∃ dd',getO h'' q9 = (Ob.row 2 [.agg [.int .i64 (K),dd']]) ∧ Bld 2 encV (q9 + 1) (Ov ++ Xv.map (addV vb)) h'' dd') ∧
      get (po 1) e' = get (po 1) e ∧ get (po 2) e' = get (po 2) e ∧ get (po 4) e' = get (po 4) e ∧ get (po 9) e' = get (po 9) e ∧ get (po 10) e' = get (po 10) e := by
  refine loop_up hr Xv.length
    (fun i e' n' h'' => Hp n h n' h'' ∧ n0 ≤ n' ∧ (∀ q,q < n0 → q ≠ q9 → off q dd → getO h'' q = getO h' q) ∧ getO h'' q11 = .row 2 [.agg [.int .i64 va,.int .i64 vb]] ∧ getO h'' q12 = (Ob.row 2 [.agg [.int .i64 (Xn),slD 2 encV (Sl.app Xv)]]) ∧ (∃ dd',getO h'' q9 = (Ob.row 2 [.agg [.int .i64 (K),dd']]) ∧ Bld 2 encV (q9 + 1) (Ov ++ (Xv.take i).map (addV vb)) h'' dd' ∧ ∀ q,q < n0 → off q dd → off q dd') ∧
      (get (po 1) e' = get (po 1) e ∧ get (po 2) e' = get (po 2) e ∧ get (po 4) e' = get (po 4) e ∧ get (po 9) e' = get (po 9) e ∧ get (po 10) e' = get (po 10) e) ∧ get (po 11) e' = .ptr q11 0 0 ∧ get (po 12) e' = .ptr q12 0 0 ∧ get (po 13) e' = .int .i64 (i : Nat))
    (fun x e' n' h'' => x = .exit 4 ∧ Hp n h n' h'' ∧ n0 ≤ n' ∧ (∀ q,q < n0 → q ≠ q9 → off q dd → getO h'' q = getO h' q) ∧ (∃ dd',getO h'' q9 = (Ob.row 2 [.agg [.int .i64 (K),dd']]) ∧ Bld 2 encV (q9 + 1) (Ov ++ Xv.map (addV vb)) h'' dd') ∧
      get (po 1) e' = get (po 1) e ∧ get (po 2) e' = get (po 2) e ∧ get (po 4) e' = get (po 4) e ∧ get (po 9) e' = get (po 9) e ∧ get (po 10) e' = get (po 10) e)
    ?_ ?_ ⟨H,Nat.le_refl _,fun _ _ _ _ => rfl,b11,b12,⟨dd,b9,by rw [List.take_zero,List.map_nil,List.append_nil]; exact B,fun _ _ h => h⟩,⟨rfl,rfl,rfl,rfl,rfl⟩,g11,g12,g13⟩
  · rintro e' n' h'' ⟨H,p1,K1,b11,b12,⟨dd',b9,B,o⟩,⟨k1,k2,k4,k9,k10⟩,g11,g12,g13⟩
    rw [List.take_length] at B
    unfold l117_1
    simp (disch:=first|assumption|omega|(simp (disch:=first|assumption|omega) only [sB,reduceAdd,reduceLT,reduceLeDiff,reduceEqDiff,reduceMul,↓reduceIte];done)|fail) only [sA,↓reduceIte,reduceLT,reduceEqDiff,reduceAdd,reduceLeDiff,g12,g13,b12]
    exact ⟨_,_,_,_,rfl,by simp,rfl,H.mono (by omega),by omega,K1,⟨dd',b9,B⟩,by simp +decide only [sG,k1],by simp +decide only [sG,k2],by simp +decide only [sG,k4],by simp +decide only [sG,k9],by simp +decide only [sG,k10]⟩
  · rintro i e' n' h'' hi ⟨H,p1,K1,b11,b12,⟨dd',b9,B,o⟩,⟨k1,k2,k4,k9,k10⟩,g11,g12,g13⟩
    rw [g9] at k9
    have hv := hXv Xv[i] (List.getElem_mem hi)
    obtain ⟨D',H',A⟩ := app_bldz (b := 16) B H (by omega) (by omega) lowV [addV vb Xv[i]] (by simp; omega)
    have A1 := fun m hm => (A m hm).1
    have A2 := fun m hm => (A m hm).2.1
    have A3 := fun m hm => (A m hm).2.2.1
    have A4 := fun m hm => (A m hm).2.2.2.1
    simp only [encV,addV,List.map_cons,List.map_nil] at A1
    have hd1 := B.okD
    have hd2 : ∀ m,n' ≤ m → one (D' m) = true := fun m hm => (A2 m hm).one
    have hg3 : ∀ m,n' ≤ m → getO (H' m) q9 = (Ob.row 2 [.agg [.int .i64 (K),dd']]) := fun m hm => by rw [(A4 m hm _ (by omega) (B.off' (by omega))).1]; exact b9
    unfold l117_1
    simp (disch:=first|assumption|omega|(simp (disch:=first|assumption|omega) only [sB,reduceAdd,reduceLT,reduceLeDiff,reduceEqDiff,reduceMul,↓reduceIte,app_el,hi,hd2];done)|fail) only [sA,↓reduceIte,reduceLT,reduceEqDiff,reduceAdd,reduceLeDiff,k9,g11,g12,g13,encV,b9,b11,b12,hd1,hg3,A1,app_el,hi,hd2]
    refine ⟨_,_,_,_,rfl,.inl ⟨rfl,((A3 _ (by omega)).set (r := q9) (by omega) (fun k hk => (A2 _ (by omega)).box2 ((A3 _ (by omega)).good k hk))).mono (by omega),by omega,fun q hq hne ho => getO_set2 (hg3 _ (by omega)) ((A4 _ (by omega) q (by omega) (o q hq ho)).1.trans (K1 q hq hne ho)) hne,
      getO_set2 (hg3 _ (by omega)) ((A4 _ (by omega) q11 (by omega) (o q11 (by omega) o11)).1.trans b11) (by omega),getO_set2 (hg3 _ (by omega)) ((A4 _ (by omega) q12 (by omega) (o q12 (by omega) o12)).1.trans b12) (by omega),⟨_,getO_set1 (hg3 _ (by omega)),?_,fun q hq ho => (A4 _ (by omega) q (by omega) (o q hq ho)).2⟩,⟨by simp +decide only [sG,k1],by simp +decide only [sG,k2],by simp +decide only [sG,k4],by simp (disch:=first|assumption|omega|(simp (disch:=first|assumption|omega) only [sB,reduceAdd,reduceLT,reduceLeDiff,reduceEqDiff,reduceMul,↓reduceIte];done)|fail) only [sA,↓reduceIte,reduceLT,reduceEqDiff,reduceAdd,reduceLeDiff,k9,g9],by simp +decide only [sG,k10]⟩,by simp +decide only [sG,g11],by simp +decide only [sG,g12],by simp +decide only [sG]⟩⟩
    rw [take_snoc hi,List.map_append,← List.append_assoc]
    exact (A2 _ (by omega)).set (hg3 _ (by omega)) (by omega)

set_option maxHeartbeats 8000000 in
theorem refSubst (n : Nat) (h : Hps) (hg : ∀ k,n ≤ k → GoodAt k h) (N : Int) (d : D) (l : List LV) (ad : Nat → D) (S : Sv 2 encV n h d l ad) (hs : l.length < 1000000000000) (args : Sl SLev) (ha : args.el.length < 1000000000000) (hz : ∀ a,a ∈ args.el → sizeOk a) :
    callFn (LX (cF Try.prog)) n h [(D.agg [.int .i64 (N),d]),slD 2 encL args] (cF Try.prog 117) = .ok (D.tup [.agg [.int .i64 (Lev.rsubst ⟨N,l⟩ (args.el.map SLev.lev)).1.n,slD 2 encV (Sl.app (Lev.rsubst ⟨N,l⟩ (args.el.map SLev.lev)).1.v)],.int .i64 (Lev.rsubst ⟨N,l⟩ (args.el.map SLev.lev)).2]) n h := by
  have s3 := S.okD
  have hgn := hg n (Nat.le_refl _)
  have H0 : Hp n h (n + 2) ((n + 1,(Ob.row 2 [.agg [.int .i64 0,.nils]])) :: (n,(Ob.row 2 [.agg [.int .i64 (N),d]])) :: h) := ((Hp.start hg).cons (r := n) (m := n + 1) (Nat.le_refl _) (by omega) (fun k hk => S.box2 (by omega))).box (m := n + 2) (r := n + 1) (by omega) (by omega) rfl
  have c0 : ∀ m,n + 2 ≤ m → callFn (LX (cF Try.prog)) m ((n + 1,(Ob.row 2 [.agg [.int .i64 0,.nils]])) :: (n,(Ob.row 2 [.agg [.int .i64 (N),d]])) :: h) [(D.agg [.int .i64 (N),d])] (cF Try.prog 122) = .ok (D.tup [.agg [.int .i64 (Lev.nrm ⟨N,l⟩).1.n,slD 2 encV (Sl.app (Lev.nrm ⟨N,l⟩).1.v)],.int .i64 (Lev.nrm ⟨N,l⟩).2]) m ((n + 1,(Ob.row 2 [.agg [.int .i64 0,.nils]])) :: (n,(Ob.row 2 [.agg [.int .i64 (N),d]])) :: h) := fun m hm => refNorm m _ (H0.good' hm) N d l ad (S.mono H0 hm) hs
  unfold Lev.rsubst
  by_cases hb : Lev.right ⟨N,l⟩ = true
  · rw [if_pos hb]
    rw [nrm_right hb] at c0
    have hr := right_iff.1 (right_norm hb)
    generalize hN : Lev.norm ⟨N,l⟩ = M at c0 hr ⊢
    obtain ⟨Mn,Mv⟩ := M
    obtain ⟨hMn,hlen,hMv⟩ := hr
    replace hlen : Mv.length ≤ 64 := hlen
    replace hMn : 0 ≤ Mn ∧ Mn ≤ 1000 := hMn
    have H1 : Hp n h (n + 2) ((n + 1,(Ob.row 2 [.agg [.int .i64 0,.nils]])) :: (n,(Ob.row 2 [.agg [.int .i64 (Mn),slD 2 encV (Sl.app Mv)]])) :: h) := ((Hp.start hg).box (r := n) (m := n + 1) (Nat.le_refl _) (by omega) (flatL ⟨Mn,Sl.app Mv⟩)).box (m := n + 2) (r := n + 1) (by omega) (by omega) rfl
    generalize hR : rfLoop (args.el.map SLev.lev) Mv ⟨Mn,[]⟩ = R
    replace hR : rfLoop (args.el.map SLev.lev) Mv ⟨Mn,[]⟩ = R := hR
    rw [f117_eq]; unfold c117; rw [callFn_eq (by rfl)]
    simp (disch:=first|assumption|omega|(simp (disch:=first|assumption|omega) only [sB,reduceAdd,reduceLT,reduceLeDiff,reduceEqDiff,reduceMul,↓reduceIte];done)|fail) only [sA,↓reduceIte,reduceLT,reduceEqDiff,reduceAdd,reduceLeDiff,c0,s3]
    generalize hr : LX (cF Try.prog) (.loop l117_0) _ _ _ = r
    obtain ⟨x,e2,n2,h2,rfl,H2,p2,q⟩ := loop_up hr args.el.length
      (fun i e n' h' => Hp n h n' h' ∧ n + 2 ≤ n' ∧ getO h' n = (Ob.row 2 [.agg [.int .i64 (Mn),slD 2 encV (Sl.app Mv)]]) ∧ getO h' (n + 1) = (Ob.row 2 [.agg [.int .i64 0,.nils]]) ∧ ((args.el.map SLev.lev).drop i).all Lev.right = (args.el.map SLev.lev).all Lev.right ∧ get (po 1) e = slD 2 encL args ∧ get (po 2) e = .ptr n 0 0 ∧ get (po 4) e = .ptr (n + 1) 0 0 ∧ get (po 7) e = .int .i64 (i : Nat))
      (fun x e n' h' => Hp n h n' h' ∧ n + 2 ≤ n' ∧ ((x = .exit 0 ∧ (args.el.map SLev.lev).all Lev.right = true ∧ getO h' n = (Ob.row 2 [.agg [.int .i64 (Mn),slD 2 encV (Sl.app Mv)]]) ∧ getO h' (n + 1) = (Ob.row 2 [.agg [.int .i64 0,.nils]]) ∧ get (po 1) e = slD 2 encL args ∧ get (po 2) e = .ptr n 0 0 ∧ get (po 4) e = .ptr (n + 1) 0 0) ∨
        (x = .ret ∧ (args.el.map SLev.lev).all Lev.right = false ∧ getO h' (n + 1) = (Ob.row 2 [.agg [.int .i64 0,.nils]]) ∧ get (po 4) e = .ptr (n + 1) 0 0 ∧ get (po 5) e = .int .i64 13)))
      (by
        rintro e n' h' ⟨H,p1,b0,b1,hall,g1,g2,g4,g7⟩
        unfold l117_0
        simp (disch:=first|assumption|omega|(simp (disch:=first|assumption|omega) only [sB,reduceAdd,reduceLT,reduceLeDiff,reduceEqDiff,reduceMul,↓reduceIte];done)|fail) only [sA,↓reduceIte,reduceLT,reduceEqDiff,reduceAdd,reduceLeDiff,g1,g7]
        exact ⟨_,_,_,_,rfl,by simp,H.mono (by omega),by omega,.inl ⟨rfl,by rw [← hall,← List.length_map (f := SLev.lev),List.drop_length]; rfl,b0,b1,by simp +decide only [sG,g1],by simp +decide only [sG,g2],by simp +decide only [sG,g4]⟩⟩)
      (by
        rintro i e n' h' hi ⟨H,p1,b0,b1,hall,g1,g2,g4,g7⟩
        rw [List.drop_eq_getElem_cons (by rw [List.length_map]; exact hi),List.all_cons,List.getElem_map] at hall
        have c1 : ∀ m,n' ≤ m → callFn (LX (cF Try.prog)) m h' [(D.agg [.int .i64 (args.el[i].n),slD 2 encV (args.el[i].vs)])] (cF Try.prog 131) = .ok (.bool args.el[i].lev.right) m h' := fun m hm => refRight m _ (H.good' hm) _ _ _ _ (svV _) (hz _ (List.getElem_mem hi))
        unfold l117_0
        cases hri : args.el[i].lev.right with
        | true =>
          rw [hri] at c1 hall
          simp (disch:=first|assumption|omega|(simp (disch:=first|assumption|omega) only [sB,reduceAdd,reduceLT,reduceLeDiff,reduceEqDiff,reduceMul,↓reduceIte];done)|fail) only [sA,↓reduceIte,reduceLT,reduceEqDiff,reduceAdd,reduceLeDiff,g1,g7,encL,c1]
          exact ⟨_,_,_,_,rfl,.inl ⟨rfl,H.mono (by omega),by omega,b0,b1,hall,by simp +decide only [sG,g1],by simp +decide only [sG,g2],by simp +decide only [sG,g4],by simp +decide only [sG]⟩⟩
        | false =>
          rw [hri] at c1 hall
          simp (disch:=first|assumption|omega|(simp (disch:=first|assumption|omega) only [sB,reduceAdd,reduceLT,reduceLeDiff,reduceEqDiff,reduceMul,↓reduceIte];done)|fail) only [sA,↓reduceIte,reduceLT,reduceEqDiff,reduceAdd,reduceLeDiff,g1,g4,g7,encL,c1,b1]
          exact ⟨_,_,_,_,rfl,.inr ⟨by simp,(H.set (r := n + 1) (x := (Ob.row 2 [.agg [.int .i64 0,.nils]])) (by omega) (fun q _ => lowO_one (low_flat rfl))).mono (by omega),by omega,.inr ⟨rfl,hall.symm,getO_set1 b1,by simp +decide only [sG,g4],by simp +decide only [sG]⟩⟩⟩)
      ⟨H1.mono (by omega),by omega,by simp (disch:=first|assumption|omega|(simp (disch:=first|assumption|omega) only [sB,reduceAdd,reduceLT,reduceLeDiff,reduceEqDiff,reduceMul,↓reduceIte];done)|fail) only [sA,↓reduceIte,reduceLT,reduceEqDiff,reduceAdd,reduceLeDiff],by simp (disch:=first|assumption|omega|(simp (disch:=first|assumption|omega) only [sB,reduceAdd,reduceLT,reduceLeDiff,reduceEqDiff,reduceMul,↓reduceIte];done)|fail) only [sA,↓reduceIte,reduceLT,reduceEqDiff,reduceAdd,reduceLeDiff],rfl,by simp +decide only [sG],by simp +decide only [sG],by simp +decide only [sG],by simp (disch:=first|assumption|omega|(simp (disch:=first|assumption|omega) only [sB,reduceAdd,reduceLT,reduceLeDiff,reduceEqDiff,reduceMul,↓reduceIte];done)|fail) only [sA,↓reduceIte,reduceLT,reduceEqDiff,reduceAdd,reduceLeDiff]⟩
    rcases q with ⟨rfl,hall,b0,b1,g1,g2,g4⟩ | ⟨rfl,hall,b1,g4,g5⟩
    · rw [if_pos hall]
      have hal := fun a h => List.all_eq_true.1 hall a h
      simp (disch:=first|assumption|omega|(simp (disch:=first|assumption|omega) only [sB,reduceAdd,reduceLT,reduceLeDiff,reduceEqDiff,reduceMul,↓reduceIte];done)|fail) only [sA,↓reduceIte,reduceLT,reduceEqDiff,reduceAdd,reduceLeDiff,g1,g2,g4,b0]
      generalize hr : LX (cF Try.prog) (.loop l117_2) _ _ _ = r
      obtain ⟨q9,e9⟩ : ∃ q9,n2 + 3 = q9 := ⟨_,rfl⟩
      rw [e9] at hr
      obtain ⟨x,e3,n3,h3,rfl,H3,p3,b1,g4,q⟩ := loop_up hr Mv.length
        (fun i e n' h' => Hp n h n' h' ∧ q9 + 1 ≤ n' ∧ getO h' (n + 1) = (Ob.row 2 [.agg [.int .i64 0,.nils]]) ∧ get (po 4) e = .ptr (n + 1) 0 0 ∧ getO h' n = (Ob.row 2 [.agg [.int .i64 (Mn),slD 2 encV (Sl.app Mv)]]) ∧ (∃ (On : Int) (Ov : List LV) (dd : D),rfLoop (args.el.map SLev.lev) (Mv.drop i) ⟨On,Ov⟩ = R ∧ Nn ⟨On,Ov⟩ ∧ On ≤ 2000 ∧ Ov.length ≤ 64 * i ∧ getO h' q9 = (Ob.row 2 [.agg [.int .i64 (On),dd]]) ∧ Bld 2 encV (q9 + 1) Ov h' dd) ∧
          get (po 1) e = slD 2 encL args ∧ get (po 2) e = .ptr n 0 0 ∧ get (po 9) e = .ptr q9 0 0 ∧ get (po 10) e = .int .i64 (i : Nat))
        (fun x e n' h' => Hp n h n' h' ∧ q9 + 1 ≤ n' ∧ getO h' (n + 1) = (Ob.row 2 [.agg [.int .i64 0,.nils]]) ∧ get (po 4) e = .ptr (n + 1) 0 0 ∧ ((x = .exit 2 ∧ ∃ (On : Int) (Ov : List LV) (dd : D),some ⟨On,Ov⟩ = R ∧ Nn ⟨On,Ov⟩ ∧ On ≤ 2000 ∧ Ov.length ≤ 4096 ∧ getO h' q9 = (Ob.row 2 [.agg [.int .i64 (On),dd]]) ∧ Bld 2 encV (q9 + 1) Ov h' dd ∧ get (po 9) e = .ptr q9 0 0) ∨
          (x = .ret ∧ R = none ∧ get (po 5) e = .int .i64 13)))
        (by
          rintro e n' h' ⟨H,p1,b1,g4,b0,⟨On,Ov,dd,hS,hO1,hO2,hO3,b9,B⟩,g1,g2,g9,g10⟩
          rw [List.drop_length] at hS
          unfold l117_2
          simp (disch:=first|assumption|omega|(simp (disch:=first|assumption|omega) only [sB,reduceAdd,reduceLT,reduceLeDiff,reduceEqDiff,reduceMul,↓reduceIte];done)|fail) only [sA,↓reduceIte,reduceLT,reduceEqDiff,reduceAdd,reduceLeDiff,g2,g10,b0]
          exact ⟨_,_,_,_,rfl,by simp,H.mono (by omega),by omega,b1,by simp +decide only [sG,g4],.inl ⟨rfl,On,Ov,dd,hS,hO1,hO2,by omega,b9,B,by simp +decide only [sG,g9]⟩⟩)
        (by
          rintro i e n' h' hi ⟨H,p1,b1,g4,b0,⟨On,Ov,dd,hS,hO1,hO2,hO3,b9,B⟩,g1,g2,g9,g10⟩
          have hnn := H2.le
          rw [List.drop_eq_getElem_cons hi] at hS
          have hv := hMv Mv[i] (List.getElem_mem hi)
          generalize hV : Mv[i] = V at hS hv
          obtain ⟨va,vb⟩ := V
          obtain ⟨vn,rfl⟩ : ∃ vn : Nat,va = (vn : Int) := Int.eq_ofNat_of_zero_le hv.1.1
          have hvb : 0 ≤ vb ∧ vb ≤ 1000 := hv.2
          have hvn : (vn : Int) ≤ 1000 := hv.1.2
          have HX : ∀ X m,n' ≤ X → X + 1 ≤ m → Hp n h m ((X,.row 2 [.agg [.int .i64 (vn : Int),.int .i64 vb]]) :: h') := fun X m hX hm => H.box (by omega) (by omega) rfl
          unfold rfLoop at hS
          simp only [Int.toNat_natCast] at hS
          by_cases a1 : vn < args.el.length
          · rw [List.getElem?_map,List.getElem?_eq_getElem a1] at hS
            have har := hal args.el[vn].lev (List.mem_map.2 ⟨_,List.getElem_mem a1,rfl⟩)
            have hri := right_iff.1 har
            have hri2 := right_iff.1 (right_norm har)
            replace hS : rfLoop (args.el.map SLev.lev) (Mv.drop (i + 1)) ((⟨On,Ov⟩ : Lev).uni (args.el[vn].lev.norm.it vb)) = R := hS
            have c1 : ∀ X m,n' ≤ X → X + 1 ≤ m → callFn (LX (cF Try.prog)) m ((X,.row 2 [.agg [.int .i64 (vn : Int),.int .i64 vb]]) :: h') [(D.agg [.int .i64 (args.el[vn].n),slD 2 encV (args.el[vn].vs)])] (cF Try.prog 132) = .ok (D.agg [.int .i64 (Lev.norm (args.el[vn].lev)).n,slD 2 encV (Sl.app (Lev.norm (args.el[vn].lev)).v)]) m ((X,.row 2 [.agg [.int .i64 (vn : Int),.int .i64 vb]]) :: h') := fun X m hX hm => refTidy m _ ((HX X m hX hm).good' (Nat.le_refl _)) _ _ _ _ (svV _) (hz _ (List.getElem_mem a1)) (fun p hp => (hri.2.2 p hp).1.1) (by have := hri.1; exact ⟨by have := this.1; show _ < args.el[vn].lev.n; omega,by have := this.2; show args.el[vn].lev.n < _; omega⟩)
            generalize Lev.norm (args.el[vn].lev) = XX at hS c1 hri2
            obtain ⟨Xn,Xv⟩ := XX
            obtain ⟨hX1,hX2,hX3⟩ := hri2
            replace hX1 : 0 ≤ Xn ∧ Xn ≤ 1000 := hX1
            replace hX2 : Xv.length ≤ 64 := hX2
            have hUn : ((⟨On,Ov⟩ : Lev).uni (Lev.it ⟨Xn,Xv⟩ vb)) = ⟨max On (Lev.num ⟨Xn,Xv⟩ vb),Ov ++ Xv.map (addV vb)⟩ := rfl
            have hNn : Nn ((⟨On,Ov⟩ : Lev).uni (Lev.it ⟨Xn,Xv⟩ vb)) := hO1.uni (Nn.it ⟨hX1.1,fun p hp => ⟨(hX3 p hp).1.1,(hX3 p hp).2.1⟩⟩ hvb.1)
            rw [hUn] at hS hNn
            have hON : 0 ≤ On := hO1.1
            have tail : ∀ {q11 q12 n0 : Nat} {e1 : Tr} {h1 : Hps} {r : Re} {N' : Int},LX (cF Try.prog) (.loop l117_1) e1 n0 h1 = r → Hp n h n0 h1 → n' ≤ q11 → q11 < q12 → q12 < n0 → N' = max On (Lev.num ⟨Xn,Xv⟩ vb) → N' ≤ 2000 → getO h1 q9 = (Ob.row 2 [.agg [.int .i64 (N'),dd]]) → Bld 2 encV (q9 + 1) Ov h1 dd → getO h1 q11 = .row 2 [.agg [.int .i64 (vn : Int),.int .i64 vb]] → getO h1 q12 = (Ob.row 2 [.agg [.int .i64 (Xn),slD 2 encV (Sl.app Xv)]]) → getO h1 n = (Ob.row 2 [.agg [.int .i64 (Mn),slD 2 encV (Sl.app Mv)]]) → getO h1 (n + 1) = (Ob.row 2 [.agg [.int .i64 0,.nils]]) →
                get (po 1) e1 = slD 2 encL args → get (po 2) e1 = .ptr n 0 0 → get (po 4) e1 = .ptr (n + 1) 0 0 → get (po 9) e1 = .ptr q9 0 0 → get (po 10) e1 = .int .i64 (i : Nat) → get (po 11) e1 = .ptr q11 0 0 → get (po 12) e1 = .ptr q12 0 0 → get (po 13) e1 = .int .i64 0 →
                ∃ x e' n'' h'',r = .ok x e' n'' h'' ∧ x = .exit 4 ∧ Hp n h n'' h'' ∧ q9 + 1 ≤ n'' ∧ getO h'' (n + 1) = (Ob.row 2 [.agg [.int .i64 0,.nils]]) ∧ get (po 4) e' = .ptr (n + 1) 0 0 ∧ getO h'' n = (Ob.row 2 [.agg [.int .i64 (Mn),slD 2 encV (Sl.app Mv)]]) ∧ (∃ (On : Int) (Ov : List LV) (dd : D),rfLoop (args.el.map SLev.lev) (Mv.drop (i + 1)) ⟨On,Ov⟩ = R ∧ Nn ⟨On,Ov⟩ ∧ On ≤ 2000 ∧ Ov.length ≤ 64 * (i + 1) ∧ getO h'' q9 = (Ob.row 2 [.agg [.int .i64 (On),dd]]) ∧ Bld 2 encV (q9 + 1) Ov h'' dd) ∧
                  get (po 1) e' = slD 2 encL args ∧ get (po 2) e' = .ptr n 0 0 ∧ get (po 9) e' = .ptr q9 0 0 ∧ get (po 10) e' = .int .i64 (i : Nat) := by
              intro q11 q12 n0 e1 h1 r N' hr HH h11 h12 h0 hN1 hN2 k9 BB k11 k12 k0 k1 l1 l2 l4 l9 l10 l11 l12 l13
              have ho : ∀ q,n' ≤ q → off q dd := fun q hq => B.off (H.good n' (Nat.le_refl _)) hq
              obtain ⟨x,e',n'',h'',er,ex,HH2,hn2,KK,⟨dd',k9',BB'⟩,m1,m2,m4,m9,m10⟩ := refPut n h hr HH (by omega) (by omega) h12 h0 N' vn vb Xn Xv Ov dd hX2 (by omega) (fun p hp => (hX3 p hp).2) hvb k9 k11 k12 BB (ho _ h11) (ho _ (by omega)) l9 l11 l12 l13
              subst hN1
              exact ⟨x,e',n'',h'',er,ex,HH2,by omega,(KK _ (by omega) (by omega) (B.off' (by omega))).trans k1,m4.trans l4,(KK _ (by omega) (by omega) (B.off' (by omega))).trans k0,⟨_,_,dd',hS,hNn,hN2,by rw [List.length_append,List.length_map]; omega,k9',BB'⟩,m1.trans l1,m2.trans l2,m9.trans l9,m10.trans l10⟩
            have ho : ∀ q,n' ≤ q → off q dd := fun q hq => B.off (H.good n' (Nat.le_refl _)) hq
            have hnum1 : 0 < Xn ∨ Xv = [] → Lev.num ⟨Xn,Xv⟩ vb = Xn + vb := fun h => if_pos h
            have hnum2 : ¬ (0 < Xn ∨ Xv = []) → Lev.num ⟨Xn,Xv⟩ vb = 0 := fun h => if_neg h
            have hz3 : ¬ Xv.length = 0 → ¬ Xv = [] := fun h e => h (by rw [e]; rfl)
            by_cases z1 : Xn + vb > On
            · by_cases z2 : Xn > 0
              · as_aux_lemma =>
                have HS : Hp n h n' (setO h' q9 (Ob.row 2 [.agg [.int .i64 (Xn + vb),dd]])) := H.set (by omega) (fun k hk => B.box2 (H.good k hk))
                have BS := B.set (x := (Ob.row 2 [.agg [.int .i64 (Xn + vb),dd]])) b9 (by omega)
                unfold l117_2
                simp (disch:=first|assumption|omega|(simp (disch:=first|assumption|omega) only [sB,reduceAdd,reduceLT,reduceLeDiff,reduceEqDiff,reduceMul,↓reduceIte,app_el,hi];done)|fail) only [sA,↓reduceIte,reduceLT,reduceEqDiff,reduceAdd,reduceLeDiff,g1,g2,g4,g9,g10,b0,b9,hV,encV,encL,c1,z1,z2,app_el,hi]
                generalize hr : LX (cF Try.prog) (.loop l117_1) _ _ _ = r
                obtain ⟨x,e',n'',h'',rfl,rfl,HH2,hn2,k1,l4,k0,KK,l1,l2,l9,l10⟩ := tail hr (((HS.box (r := n' + 10) (m := n' + 11) (by omega) (by omega) rfl).box (r := n' + 24) (m := n' + 25) (by omega) (by omega) (flatL ⟨Xn,Sl.app Xv⟩)).mono (by omega)) (q11 := n' + 10) (q12 := n' + 24) (by omega) (by omega) (by omega) (by rw [hnum1 (.inl z2)]; omega) (by omega) (getO_keep (getO_keep (getO_set1 b9) (by omega)) (by omega)) ((BS.consz (ho _ (by omega))).consz (ho _ (by omega))) (by simp (disch:=first|assumption|omega|(simp (disch:=first|assumption|omega) only [sB,reduceAdd,reduceLT,reduceLeDiff,reduceEqDiff,reduceMul,↓reduceIte];done)|fail) only [sA,↓reduceIte,reduceLT,reduceEqDiff,reduceAdd,reduceLeDiff]) (by simp (disch:=first|assumption|omega|(simp (disch:=first|assumption|omega) only [sB,reduceAdd,reduceLT,reduceLeDiff,reduceEqDiff,reduceMul,↓reduceIte];done)|fail) only [sA,↓reduceIte,reduceLT,reduceEqDiff,reduceAdd,reduceLeDiff]) (getO_keep (getO_keep (getO_set2 b9 b0 (by omega)) (by omega)) (by omega)) (getO_keep (getO_keep (getO_set2 b9 b1 (by omega)) (by omega)) (by omega)) (by simp +decide only [sG,g1]) (by simp +decide only [sG,g2]) (by simp +decide only [sG,g4]) (by simp +decide only [sG,g9]) (by simp +decide only [sG,g10]) (by simp +decide only [sG]) (by simp +decide only [sG]) (by simp +decide only [sG])
                simp (disch:=first|assumption|omega|(simp (disch:=first|assumption|omega) only [sB,reduceAdd,reduceLT,reduceLeDiff,reduceEqDiff,reduceMul,↓reduceIte];done)|fail) only [sA,↓reduceIte,reduceLT,reduceEqDiff,reduceAdd,reduceLeDiff,l10]
                exact ⟨_,_,_,_,rfl,.inl ⟨rfl,HH2.mono (by omega),by omega,k1,by simp +decide only [sG,l4],k0,KK,by simp +decide only [sG,l1],by simp +decide only [sG,l2],by simp +decide only [sG,l9],by simp +decide only [sG]⟩⟩
              · by_cases z3 : Xv.length = 0
                · as_aux_lemma =>
                  have HS : Hp n h n' (setO h' q9 (Ob.row 2 [.agg [.int .i64 (Xn + vb),dd]])) := H.set (by omega) (fun k hk => B.box2 (H.good k hk))
                  have BS := B.set (x := (Ob.row 2 [.agg [.int .i64 (Xn + vb),dd]])) b9 (by omega)
                  unfold l117_2
                  simp (disch:=first|assumption|omega|(simp (disch:=first|assumption|omega) only [sB,reduceAdd,reduceLT,reduceLeDiff,reduceEqDiff,reduceMul,↓reduceIte,app_el,hi];done)|fail) only [sA,↓reduceIte,reduceLT,reduceEqDiff,reduceAdd,reduceLeDiff,g1,g2,g4,g9,g10,b0,b9,hV,encV,encL,c1,z1,z2,z3,app_el,hi]
                  generalize hr : LX (cF Try.prog) (.loop l117_1) _ _ _ = r
                  obtain ⟨x,e',n'',h'',rfl,rfl,HH2,hn2,k1,l4,k0,KK,l1,l2,l9,l10⟩ := tail hr (((HS.box (r := n' + 10) (m := n' + 11) (by omega) (by omega) rfl).box (r := n' + 24) (m := n' + 25) (by omega) (by omega) (flatL ⟨Xn,Sl.app Xv⟩)).mono (by omega)) (q11 := n' + 10) (q12 := n' + 24) (by omega) (by omega) (by omega) (by rw [hnum1 (.inr (List.length_eq_zero_iff.1 z3))]; omega) (by omega) (getO_keep (getO_keep (getO_set1 b9) (by omega)) (by omega)) ((BS.consz (ho _ (by omega))).consz (ho _ (by omega))) (by simp (disch:=first|assumption|omega|(simp (disch:=first|assumption|omega) only [sB,reduceAdd,reduceLT,reduceLeDiff,reduceEqDiff,reduceMul,↓reduceIte];done)|fail) only [sA,↓reduceIte,reduceLT,reduceEqDiff,reduceAdd,reduceLeDiff]) (by simp (disch:=first|assumption|omega|(simp (disch:=first|assumption|omega) only [sB,reduceAdd,reduceLT,reduceLeDiff,reduceEqDiff,reduceMul,↓reduceIte];done)|fail) only [sA,↓reduceIte,reduceLT,reduceEqDiff,reduceAdd,reduceLeDiff]) (getO_keep (getO_keep (getO_set2 b9 b0 (by omega)) (by omega)) (by omega)) (getO_keep (getO_keep (getO_set2 b9 b1 (by omega)) (by omega)) (by omega)) (by simp +decide only [sG,g1]) (by simp +decide only [sG,g2]) (by simp +decide only [sG,g4]) (by simp +decide only [sG,g9]) (by simp +decide only [sG,g10]) (by simp +decide only [sG]) (by simp +decide only [sG]) (by simp +decide only [sG])
                  simp (disch:=first|assumption|omega|(simp (disch:=first|assumption|omega) only [sB,reduceAdd,reduceLT,reduceLeDiff,reduceEqDiff,reduceMul,↓reduceIte];done)|fail) only [sA,↓reduceIte,reduceLT,reduceEqDiff,reduceAdd,reduceLeDiff,l10]
                  exact ⟨_,_,_,_,rfl,.inl ⟨rfl,HH2.mono (by omega),by omega,k1,by simp +decide only [sG,l4],k0,KK,by simp +decide only [sG,l1],by simp +decide only [sG,l2],by simp +decide only [sG,l9],by simp +decide only [sG]⟩⟩
                · as_aux_lemma =>
                  unfold l117_2
                  simp (disch:=first|assumption|omega|(simp (disch:=first|assumption|omega) only [sB,reduceAdd,reduceLT,reduceLeDiff,reduceEqDiff,reduceMul,↓reduceIte,app_el,hi];done)|fail) only [sA,↓reduceIte,reduceLT,reduceEqDiff,reduceAdd,reduceLeDiff,g1,g2,g4,g9,g10,b0,b9,hV,encV,encL,c1,z1,z2,z3,app_el,hi]
                  generalize hr : LX (cF Try.prog) (.loop l117_1) _ _ _ = r
                  obtain ⟨x,e',n'',h'',rfl,rfl,HH2,hn2,k1,l4,k0,KK,l1,l2,l9,l10⟩ := tail hr (((H.box (r := n' + 10) (m := n' + 11) (by omega) (by omega) rfl).box (r := n' + 24) (m := n' + 25) (by omega) (by omega) (flatL ⟨Xn,Sl.app Xv⟩)).mono (by omega)) (q11 := n' + 10) (q12 := n' + 24) (by omega) (by omega) (by omega) (show On = _ by rw [hnum2 (fun h => h.elim (fun h => z2 h) (hz3 z3))]; omega) (by omega) (getO_keep (getO_keep b9 (by omega)) (by omega)) ((B.consz (ho _ (by omega))).consz (ho _ (by omega))) (by simp (disch:=first|assumption|omega|(simp (disch:=first|assumption|omega) only [sB,reduceAdd,reduceLT,reduceLeDiff,reduceEqDiff,reduceMul,↓reduceIte];done)|fail) only [sA,↓reduceIte,reduceLT,reduceEqDiff,reduceAdd,reduceLeDiff]) (by simp (disch:=first|assumption|omega|(simp (disch:=first|assumption|omega) only [sB,reduceAdd,reduceLT,reduceLeDiff,reduceEqDiff,reduceMul,↓reduceIte];done)|fail) only [sA,↓reduceIte,reduceLT,reduceEqDiff,reduceAdd,reduceLeDiff]) (getO_keep (getO_keep b0 (by omega)) (by omega)) (getO_keep (getO_keep b1 (by omega)) (by omega)) (by simp +decide only [sG,g1]) (by simp +decide only [sG,g2]) (by simp +decide only [sG,g4]) (by simp +decide only [sG,g9]) (by simp +decide only [sG,g10]) (by simp +decide only [sG]) (by simp +decide only [sG]) (by simp +decide only [sG])
                  simp (disch:=first|assumption|omega|(simp (disch:=first|assumption|omega) only [sB,reduceAdd,reduceLT,reduceLeDiff,reduceEqDiff,reduceMul,↓reduceIte];done)|fail) only [sA,↓reduceIte,reduceLT,reduceEqDiff,reduceAdd,reduceLeDiff,l10]
                  exact ⟨_,_,_,_,rfl,.inl ⟨rfl,HH2.mono (by omega),by omega,k1,by simp +decide only [sG,l4],k0,KK,by simp +decide only [sG,l1],by simp +decide only [sG,l2],by simp +decide only [sG,l9],by simp +decide only [sG]⟩⟩
            · as_aux_lemma =>
              have hm : max On (Lev.num ⟨Xn,Xv⟩ vb) = On := by
                by_cases z2 : 0 < Xn ∨ Xv = []
                · rw [hnum1 z2]; omega
                · rw [hnum2 z2]; omega
              unfold l117_2
              simp (disch:=first|assumption|omega|(simp (disch:=first|assumption|omega) only [sB,reduceAdd,reduceLT,reduceLeDiff,reduceEqDiff,reduceMul,↓reduceIte,app_el,hi];done)|fail) only [sA,↓reduceIte,reduceLT,reduceEqDiff,reduceAdd,reduceLeDiff,g1,g2,g4,g9,g10,b0,b9,hV,encV,encL,c1,z1,app_el,hi]
              generalize hr : LX (cF Try.prog) (.loop l117_1) _ _ _ = r
              obtain ⟨x,e',n'',h'',rfl,rfl,HH2,hn2,k1,l4,k0,KK,l1,l2,l9,l10⟩ := tail hr (((H.box (r := n' + 10) (m := n' + 11) (by omega) (by omega) rfl).box (r := n' + 24) (m := n' + 25) (by omega) (by omega) (flatL ⟨Xn,Sl.app Xv⟩)).mono (by omega)) (q11 := n' + 10) (q12 := n' + 24) (by omega) (by omega) (by omega) hm.symm (by omega) (getO_keep (getO_keep b9 (by omega)) (by omega)) ((B.consz (ho _ (by omega))).consz (ho _ (by omega))) (by simp (disch:=first|assumption|omega|(simp (disch:=first|assumption|omega) only [sB,reduceAdd,reduceLT,reduceLeDiff,reduceEqDiff,reduceMul,↓reduceIte];done)|fail) only [sA,↓reduceIte,reduceLT,reduceEqDiff,reduceAdd,reduceLeDiff]) (by simp (disch:=first|assumption|omega|(simp (disch:=first|assumption|omega) only [sB,reduceAdd,reduceLT,reduceLeDiff,reduceEqDiff,reduceMul,↓reduceIte];done)|fail) only [sA,↓reduceIte,reduceLT,reduceEqDiff,reduceAdd,reduceLeDiff]) (getO_keep (getO_keep b0 (by omega)) (by omega)) (getO_keep (getO_keep b1 (by omega)) (by omega)) (by simp +decide only [sG,g1]) (by simp +decide only [sG,g2]) (by simp +decide only [sG,g4]) (by simp +decide only [sG,g9]) (by simp +decide only [sG,g10]) (by simp +decide only [sG]) (by simp +decide only [sG]) (by simp +decide only [sG])
              simp (disch:=first|assumption|omega|(simp (disch:=first|assumption|omega) only [sB,reduceAdd,reduceLT,reduceLeDiff,reduceEqDiff,reduceMul,↓reduceIte];done)|fail) only [sA,↓reduceIte,reduceLT,reduceEqDiff,reduceAdd,reduceLeDiff,l10]
              exact ⟨_,_,_,_,rfl,.inl ⟨rfl,HH2.mono (by omega),by omega,k1,by simp +decide only [sG,l4],k0,KK,by simp +decide only [sG,l1],by simp +decide only [sG,l2],by simp +decide only [sG,l9],by simp +decide only [sG]⟩⟩
          · rw [List.getElem?_eq_none (by rw [List.length_map]; omega)] at hS
            unfold l117_2
            simp (disch:=first|assumption|omega|(simp (disch:=first|assumption|omega) only [sB,reduceAdd,reduceLT,reduceLeDiff,reduceEqDiff,reduceMul,↓reduceIte,app_el,hi];done)|fail) only [sA,↓reduceIte,reduceLT,reduceEqDiff,reduceAdd,reduceLeDiff,g1,g2,g4,g9,g10,hV,encV,b0,b1,app_el,hi]
            exact ⟨_,_,_,_,rfl,.inr ⟨by simp,((H.set (r := n + 1) (x := (Ob.row 2 [.agg [.int .i64 0,.nils]])) (by omega) (fun q _ => lowO_one (low_flat rfl))).box (r := n' + 10) (m := n' + 11) (by omega) (by omega) rfl).mono (by omega),by omega,getO_keep (getO_set1 b1) (by omega),by simp +decide only [sG,g4],.inr ⟨rfl,hS.symm,by simp +decide only [sG]⟩⟩⟩)
        ⟨(H2.box (r := q9) (m := q9 + 1) (by omega) (by omega) rfl).mono (by omega),by omega,getO_keep b1 (by omega),by simp +decide only [sG,g4],getO_keep b0 (by omega),⟨Mn,[],.nils,hR,⟨hMn.1,fun p hp => by cases hp⟩,by omega,by simp,by simp (disch:=first|assumption|omega|(simp (disch:=first|assumption|omega) only [sB,reduceAdd,reduceLT,reduceLeDiff,reduceEqDiff,reduceMul,↓reduceIte];done)|fail) only [sA,↓reduceIte,reduceLT,reduceEqDiff,reduceAdd,reduceLeDiff],.inl ⟨rfl,rfl⟩⟩,by simp +decide only [sG,g1],by simp +decide only [sG,g2],by simp +decide only [sG],by simp (disch:=first|assumption|omega|(simp (disch:=first|assumption|omega) only [sB,reduceAdd,reduceLT,reduceLeDiff,reduceEqDiff,reduceMul,↓reduceIte];done)|fail) only [sA,↓reduceIte,reduceLT,reduceEqDiff,reduceAdd,reduceLeDiff]⟩
      rcases q with ⟨rfl,On,Ov,dd,hS,hO1,hO2,hO3,b9,B,g9⟩ | ⟨rfl,rfl,g5⟩
      · have hod := B.okD
        obtain ⟨ad2,S2⟩ := B.sv (H3.good n3 (Nat.le_refl _)) aggV
        have c3 : ∀ m,n3 ≤ m → callFn (LX (cF Try.prog)) m h3 [(D.agg [.int .i64 (On),dd])] (cF Try.prog 133) = .ok (D.tup [.agg [.int .i64 (Lev.told ⟨On,Ov⟩).1.n,slD 2 encV (Sl.app (Lev.told ⟨On,Ov⟩).1.v)],.int .i64 (Lev.told ⟨On,Ov⟩).2]) m h3 := fun m hm => refFits m h3 (H3.good' hm) On dd Ov ad2 (S2.mono (Hp.start (H3.good' (Nat.le_refl _))) hm) (by omega) (fun p hp => hO1.2 p hp) ⟨hO1.1,by omega⟩
        rw [← hS]
        show _ = Rd.ok (D.tup [.agg [.int .i64 (Lev.told ⟨On,Ov⟩).1.n,slD 2 encV (Sl.app (Lev.told ⟨On,Ov⟩).1.v)],.int .i64 (Lev.told ⟨On,Ov⟩).2]) _ _
        generalize Lev.told ⟨On,Ov⟩ = RR at c3 ⊢
        obtain ⟨⟨Rn,Rv⟩,Re⟩ := RR
        have F4 := fun m hm => finish_flat (flatR (⟨Rn,Rv⟩,Re)) ((H3.set (r := n + 1) (x := (Ob.row 2 [.agg [.int .i64 (Rn),slD 2 encV (Sl.app Rv)]])) (by omega) (fun q _ => lowO_one (low_flat (flatL ⟨Rn,Sl.app Rv⟩)))).mono (m := m) hm)
        have b4 : getO (setO h3 (n + 1) (Ob.row 2 [.agg [.int .i64 (Rn),slD 2 encV (Sl.app Rv)]])) (n + 1) = (Ob.row 2 [.agg [.int .i64 (Rn),slD 2 encV (Sl.app Rv)]]) := getO_set1 b1
        simp (disch:=first|assumption|omega|(simp (disch:=first|assumption|omega) only [sB,reduceAdd,reduceLT,reduceLeDiff,reduceEqDiff,reduceMul,↓reduceIte];done)|fail) only [sA,↓reduceIte,reduceLT,reduceEqDiff,reduceAdd,reduceLeDiff,g4,g9,b1,b9,b4,hod,c3,F4]
      · have F4 := fun m hm => finish_flat (flatR badL) (H3.mono (m := m) hm)
        have hbad : (D.tup [.agg [.int .i64 (badL).1.n,slD 2 encV (Sl.app (badL).1.v)],.int .i64 (badL).2]) = .tup [.agg [.int .i64 0,.nils],.int .i64 13] := rfl
        show _ = Rd.ok (D.tup [.agg [.int .i64 (badL).1.n,slD 2 encV (Sl.app (badL).1.v)],.int .i64 (badL).2]) _ _
        rw [hbad] at F4 ⊢
        simp (disch:=first|assumption|omega|(simp (disch:=first|assumption|omega) only [sB,reduceAdd,reduceLT,reduceLeDiff,reduceEqDiff,reduceMul,↓reduceIte];done)|fail) only [sA,↓reduceIte,reduceLT,reduceEqDiff,reduceAdd,reduceLeDiff,g4,g5,b1,F4]
    · rw [if_neg (by rw [hall]; decide)]
      have F4 := fun m hm => finish_flat (flatR badL) (H2.mono (m := m) hm)
      have hbad : (D.tup [.agg [.int .i64 (badL).1.n,slD 2 encV (Sl.app (badL).1.v)],.int .i64 (badL).2]) = .tup [.agg [.int .i64 0,.nils],.int .i64 13] := rfl
      rw [hbad] at F4 ⊢
      simp (disch:=first|assumption|omega|(simp (disch:=first|assumption|omega) only [sB,reduceAdd,reduceLT,reduceLeDiff,reduceEqDiff,reduceMul,↓reduceIte];done)|fail) only [sA,↓reduceIte,reduceLT,reduceEqDiff,reduceAdd,reduceLeDiff,g4,g5,b1,F4]
  · rw [if_neg hb]
    rw [nrm_wrong hb] at c0
    have hbad : (D.tup [.agg [.int .i64 (badL).1.n,slD 2 encV (Sl.app (badL).1.v)],.int .i64 (badL).2]) = .tup [.agg [.int .i64 0,.nils],.int .i64 13] := rfl
    rw [hbad]
    rw [f117_eq]; unfold c117; rw [callFn_eq (by rfl)]
    simp (disch:=first|assumption|omega|(simp (disch:=first|assumption|omega) only [sB,reduceAdd,reduceLT,reduceLeDiff,reduceEqDiff,reduceMul,↓reduceIte];done)|fail) only [sA,↓reduceIte,reduceLT,reduceEqDiff,reduceAdd,reduceLeDiff,c0,s3,slD_nil]
end Go.Proofs.Ytdijijblccmfbaa
