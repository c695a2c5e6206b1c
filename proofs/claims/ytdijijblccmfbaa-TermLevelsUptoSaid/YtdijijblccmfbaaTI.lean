/- level.Subst, as in the texts on levels. No condition. -/
import Derived.Test.YtdijijblccmfbaaLF
import Derived.Test.YtdijijblccmfbaaCL2
set_option linter.unusedSimpArgs false
set_option linter.unusedVariables false
namespace Go.Proofs.Ytdijijblccmfbaa
open Go
open Nat (reduceAdd reduceLT reduceLeDiff reduceEqDiff reduceMul)
theorem flatR (x : Lev × Int) : flat ((D.tup [.agg [.int .i64 (x).1.n,slD 2 encV (Sl.app (x).1.v)],.int .i64 (x).2])) = true := by rw [flat_tup]; simp [flat2_agg,flat1_slD,flat1_int,flat2_int]
theorem told_of {a b : Lev} (h : a.norm = b.norm) : a.told = b.told := by unfold Lev.told; rw [h]
end Go.Proofs.Ytdijijblccmfbaa
namespace Go.Proofs.Ytdijijblccmfbaa
open Go
open Nat (reduceAdd reduceLT reduceLeDiff reduceEqDiff reduceMul)

theorem lvSucA (n : Nat) (h : Hps) (hg : ∀ k,n ≤ k → GoodAt k h) (a k : Int) (q : Nat) (hq : getO h q = .row 1 [.int .i64 k]) (ha : 0 ≤ a ∧ a ≤ 1000000) (hk : 0 ≤ k ∧ k ≤ 1000000) : callFn (LX (cF Try.prog)) n h [.int .i64 a,.ptr q 0 0] (cF Try.prog 138) = .ok (.int .i64 (a + k)) n h := by
  have hgn := hg n (Nat.le_refl _)
  rw [f138_eq]; unfold c138; rw [callFn_eq (by rfl)]
  simp (disch:=first|assumption|omega|(simp (disch:=first|assumption|omega) only [sB,reduceAdd,reduceLT,reduceLeDiff,reduceEqDiff,reduceMul,↓reduceIte];done)|fail) only [sA,↓reduceIte,reduceLT,reduceEqDiff,reduceAdd,reduceLeDiff,hq]
theorem lvSucB (n : Nat) (a k : Int) (ha : 0 ≤ a ∧ a ≤ 1000000) (hk : 0 ≤ k ∧ k ≤ 1000000) : callFn (LX (cF Try.prog)) n [] [.int .i64 a,.ip (.int .i64 k) 0] (cF Try.prog 138) = .ok (.int .i64 (a + k)) n [] := by
  have hgn : GoodAt n [] := good_nil
  rw [f138_eq]; unfold c138; rw [callFn_eq (by rfl)]
  simp (disch:=first|assumption|omega|(simp (disch:=first|assumption|omega) only [sB,reduceAdd,reduceLT,reduceLeDiff,reduceEqDiff,reduceMul,↓reduceIte];done)|fail) only [sA,↓reduceIte,reduceLT,reduceEqDiff,reduceAdd,reduceLeDiff]

theorem lvSuc (n : Nat) (h : Hps) (hg : ∀ k,n ≤ k → GoodAt k h) (N k : Int) (d : D) (l : List LV) (ad : Nat → D) (S : Sv 2 encV n h d l ad) (hs : l.length < 1000000000000) : callFn (LX (cF Try.prog)) n h [(D.agg [.int .i64 (N),d]),.int .i64 k] (cF Try.prog 128) = .ok (D.tup [.agg [.int .i64 (Lev.suc ⟨N,l⟩ k).1.n,slD 2 encV (Sl.app (Lev.suc ⟨N,l⟩ k).1.v)],.int .i64 (Lev.suc ⟨N,l⟩ k).2]) n h := by
  have s3 := S.okD
  have hgn := hg n (Nat.le_refl _)
  have H0 : Hp n h (n + 3) ((n + 2,(Ob.row 2 [.agg [.int .i64 0,.nils]])) :: (n + 1,.row 1 [.int .i64 k]) :: (n,(Ob.row 2 [.agg [.int .i64 (N),d]])) :: h) := (((Hp.start hg).cons (r := n) (m := n + 1) (Nat.le_refl _) (by omega) (fun k hk => S.box2 (by omega))).box (m := n + 2) (r := n + 1) (by omega) (by omega) rfl).box (m := n + 3) (r := n + 2) (by omega) (by omega) rfl
  have c0 : ∀ m,n + 3 ≤ m → callFn (LX (cF Try.prog)) m ((n + 2,(Ob.row 2 [.agg [.int .i64 0,.nils]])) :: (n + 1,.row 1 [.int .i64 k]) :: (n,(Ob.row 2 [.agg [.int .i64 (N),d]])) :: h) [(D.agg [.int .i64 (N),d])] (cF Try.prog 126) = .ok (D.tup [.agg [.int .i64 (Lev.nrm ⟨N,l⟩).1.n,slD 2 encV (Sl.app (Lev.nrm ⟨N,l⟩).1.v)],.int .i64 (Lev.nrm ⟨N,l⟩).2]) m ((n + 2,(Ob.row 2 [.agg [.int .i64 0,.nils]])) :: (n + 1,.row 1 [.int .i64 k]) :: (n,(Ob.row 2 [.agg [.int .i64 (N),d]])) :: h) := fun m hm => lvNorm m _ (H0.good' hm) N d l ad (S.mono H0 hm) hs
  unfold Lev.suc
  by_cases hb : Lev.right ⟨N,l⟩ = true
  · rw [if_pos hb]
    rw [nrm_right hb] at c0
    have hr := right_iff.1 (right_norm hb)
    generalize hN : Lev.norm ⟨N,l⟩ = M at c0 hr ⊢
    obtain ⟨Mn,Mv⟩ := M
    obtain ⟨hMn,hlen,hMv⟩ := hr
    replace hlen : Mv.length ≤ 64 := hlen
    replace hMn : 0 ≤ Mn ∧ Mn ≤ 1000 := hMn
    by_cases k0 : k < 0
    · rw [if_pos k0]
      rw [f128_eq]; unfold c128; rw [callFn_eq (by rfl)]
      simp (disch:=first|assumption|omega|(simp (disch:=first|assumption|omega) only [sB,reduceAdd,reduceLT,reduceLeDiff,reduceEqDiff,reduceMul,↓reduceIte];done)|fail) only [sA,↓reduceIte,reduceLT,reduceEqDiff,reduceAdd,reduceLeDiff,c0,s3,slD_nil]
    · rw [if_neg k0]
      by_cases k1 : 1000 < k
      · rw [if_pos k1]
        rw [f128_eq]; unfold c128; rw [callFn_eq (by rfl)]
        simp (disch:=first|assumption|omega|(simp (disch:=first|assumption|omega) only [sB,reduceAdd,reduceLT,reduceLeDiff,reduceEqDiff,reduceMul,↓reduceIte];done)|fail) only [sA,↓reduceIte,reduceLT,reduceEqDiff,reduceAdd,reduceLeDiff,c0,s3,slD_nil]
      · rw [if_neg k1]
        have hkk : 0 ≤ k ∧ k ≤ 1000000 := by omega
        have H1 : Hp n h (n + 3) ((n + 2,(Ob.row 2 [.agg [.int .i64 0,.nils]])) :: (n + 1,.row 1 [.int .i64 k]) :: (n,(Ob.row 2 [.agg [.int .i64 (Mn),slD 2 encV (Sl.app Mv)]])) :: h) := (((Hp.start hg).box (r := n) (m := n + 1) (Nat.le_refl _) (by omega) (flatL ⟨Mn,Sl.app Mv⟩)).box (m := n + 2) (r := n + 1) (by omega) (by omega) rfl).box (m := n + 3) (r := n + 2) (by omega) (by omega) rfl
        have c1 : ∀ m,n + 3 ≤ m → callFn (LX (cF Try.prog)) m ((n + 2,(Ob.row 2 [.agg [.int .i64 0,.nils]])) :: (n + 1,.row 1 [.int .i64 k]) :: (n,(Ob.row 2 [.agg [.int .i64 (Mn),slD 2 encV (Sl.app Mv)]])) :: h) [.int .i64 Mn,.ptr (n + 1) 0 0] (cF Try.prog 138) = .ok (.int .i64 (Mn + k)) m ((n + 2,(Ob.row 2 [.agg [.int .i64 0,.nils]])) :: (n + 1,.row 1 [.int .i64 k]) :: (n,(Ob.row 2 [.agg [.int .i64 (Mn),slD 2 encV (Sl.app Mv)]])) :: h) := fun m hm => lvSucA m _ (H1.good' hm) Mn k (n + 1) (by rw [getO_tl (by omega),getO_hd]) (by omega) hkk
        generalize hR : Lev.told (Lev.more ⟨Mn,Mv⟩ k) = R
        rw [f128_eq]; unfold c128; rw [callFn_eq (by rfl)]
        simp (disch:=first|assumption|omega|(simp (disch:=first|assumption|omega) only [sB,reduceAdd,reduceLT,reduceLeDiff,reduceEqDiff,reduceMul,↓reduceIte];done)|fail) only [sA,↓reduceIte,reduceLT,reduceEqDiff,reduceAdd,reduceLeDiff,c0,c1,s3]
        generalize hr : LX (cF Try.prog) (.loop l128_0) _ _ _ = r
        obtain ⟨x,e2,n2,h2,rfl,rfl,H2,p2,b1,b2,d2,b3,B2,g4,g8⟩ := loop_up hr Mv.length
          (fun i e n' h' => Hp n h n' h' ∧ n + 30 ≤ n' ∧ getO h' (n + 1) = .row 1 [.int .i64 k] ∧ getO h' (n + 2) = (Ob.row 2 [.agg [.int .i64 0,.nils]]) ∧ ∃ d,getO h' (n + 29) = .row 2 [.agg [.int .i64 (Mn + k),d]] ∧ Bld 2 encV (n + 30) ((Mv.take i).map (addV k)) h' d ∧
            get (po 4) e = .ptr (n + 2) 0 0 ∧ get (po 8) e = .ptr (n + 29) 0 0 ∧ get (po 7) e = .fn 138 [] [.ptr (n + 1) 0 0] ∧ get (po 36) e = slD 2 encV (Sl.app Mv) ∧ get (po 37) e = .int .i64 (Mv.length : Nat) ∧ get (po 38) e = .int .i64 (i : Nat))
          (fun x e n' h' => x = .exit 1 ∧ Hp n h n' h' ∧ n + 30 ≤ n' ∧ getO h' (n + 1) = .row 1 [.int .i64 k] ∧ getO h' (n + 2) = (Ob.row 2 [.agg [.int .i64 0,.nils]]) ∧ ∃ d,getO h' (n + 29) = .row 2 [.agg [.int .i64 (Mn + k),d]] ∧ Bld 2 encV (n + 30) (Mv.map (addV k)) h' d ∧
            get (po 4) e = .ptr (n + 2) 0 0 ∧ get (po 8) e = .ptr (n + 29) 0 0)
          (by
            rintro e n' h' ⟨H,p1,b1,b2,d,b3,B,g4,g8,g7,g36,g37,g38⟩
            rw [List.take_length] at B
            unfold l128_0
            simp (disch:=first|assumption|omega|(simp (disch:=first|assumption|omega) only [sB,reduceAdd,reduceLT,reduceLeDiff,reduceEqDiff,reduceMul,↓reduceIte];done)|fail) only [sA,↓reduceIte,reduceLT,reduceEqDiff,reduceAdd,reduceLeDiff,g36,g37,g38]
            exact ⟨_,_,_,_,rfl,by simp,rfl,H.mono (by omega),by omega,b1,b2,d,b3,B,by simp +decide only [sG,g4],by simp +decide only [sG,g8]⟩)
          (by
            rintro i e n' h' hi ⟨H,p1,b1,b2,d,b3,B,g4,g8,g7,g36,g37,g38⟩
            have hv := hMv Mv[i] (List.getElem_mem hi)
            have H1 : Hp n h (n' + 4) ((n' + 3,.row 2 [encV Mv[i]]) :: h') := H.box (by omega) (by omega) rfl
            have B1 : Bld 2 encV (n + 30) ((Mv.take i).map (addV k)) ((n' + 3,.row 2 [encV Mv[i]]) :: h') d := B.cons (H.good n' (Nat.le_refl _)) (by omega)
            obtain ⟨D',H',A⟩ := app_bldx (b := 16) B1 H1 (by omega) (by omega) lowV [addV k Mv[i]] (by simp; omega)
            have A1 := fun m hm => (A m hm).1
            have A2 := fun m hm => (A m hm).2.1
            have A3 := fun m hm => (A m hm).2.2.1
            have A4 := fun m hm => (A m hm).2.2.2.1
            have hd1 := B.okD
            have hd2 : ∀ m,n' + 4 ≤ m → one (D' m) = true := fun m hm => (A2 m hm).one
            have hg3 : ∀ m,n' + 4 ≤ m → getO (H' m) (n + 29) = .row 2 [.agg [.int .i64 (Mn + k),d]] := fun m hm => by rw [A4 m hm _ (by omega)]; exact getO_keep b3 (by omega)
            simp only [encV,addV,List.map_cons,List.map_nil] at A1
            have c2 : ∀ m,callFn (LX (cF Try.prog)) m [] [.int .i64 Mv[i].2,.ip (.int .i64 k) 0] (cF Try.prog 138) = .ok (.int .i64 (Mv[i].2 + k)) m [] := fun m => lvSucB m Mv[i].2 k (by omega) hkk
            have hK : ∀ m,n' + 4 ≤ m → keysFrom m ((n' + 3,.row 2 [.agg [.int .i64 Mv[i].1,.int .i64 Mv[i].2]]) :: h') = [] := fun m hm => keys_low (H1.good' hm m (Nat.le_refl _))
            have hi2 : i < (Sl.app Mv).el.length := hi
            unfold l128_0
            simp (disch:=first|assumption|omega|(simp (disch:=first|assumption|omega) only [sB,reduceAdd,reduceLT,reduceLeDiff,reduceEqDiff,reduceMul,↓reduceIte,hd2];done)|fail) only [sA,↓reduceIte,reduceLT,reduceEqDiff,reduceAdd,reduceLeDiff,g4,g8,g7,g36,g37,g38,app_el,encV,b1,b3,c2,hK,hd1,hg3,A1,hd2]
            have hm0 : n' + 4 ≤ n' + 10995116277765 := by omega
            have hm1 : n' + 10995116277765 + 1 ≤ n' + 14293651161095 := by omega
            generalize n' + 10995116277765 = m0 at hm0 hm1 ⊢
            have hgm := hg3 m0 hm0
            have hlow : ∀ q,q ≤ n + 2 → getO (H' m0) q = getO h' q := fun q hq => by rw [A4 m0 hm0 q (by omega),getO_tl (by omega)]
            exact ⟨_,_,_,_,rfl,.inl ⟨rfl,((A3 m0 hm0).set (r := n + 29) (by omega) (fun q hq => (A2 m0 hm0).box2 ((A3 m0 hm0).good q hq))).mono (by omega),by omega,getO_set2 hgm ((hlow _ (by omega)).trans b1) (by omega),getO_set2 hgm ((hlow _ (by omega)).trans b2) (by omega),D' m0,getO_set1 hgm,by
              rw [take_snoc hi,List.map_append]
              exact (A2 m0 hm0).set hgm (by omega),by simp +decide only [sG,g4],by simp +decide only [sG,g8],by simp +decide only [sG,g7],by simp +decide only [sG,g36],by simp +decide only [sG,g37],by simp +decide only [sG]⟩⟩)
          ⟨(H1.box (r := n + 29) (m := n + 30) (by omega) (by omega) rfl).mono (by omega),by omega,by simp (disch:=first|assumption|omega|(simp (disch:=first|assumption|omega) only [sB,reduceAdd,reduceLT,reduceLeDiff,reduceEqDiff,reduceMul,↓reduceIte];done)|fail) only [sA,↓reduceIte,reduceLT,reduceEqDiff,reduceAdd,reduceLeDiff],by simp (disch:=first|assumption|omega|(simp (disch:=first|assumption|omega) only [sB,reduceAdd,reduceLT,reduceLeDiff,reduceEqDiff,reduceMul,↓reduceIte];done)|fail) only [sA,↓reduceIte,reduceLT,reduceEqDiff,reduceAdd,reduceLeDiff],.nils,by simp (disch:=first|assumption|omega|(simp (disch:=first|assumption|omega) only [sB,reduceAdd,reduceLT,reduceLeDiff,reduceEqDiff,reduceMul,↓reduceIte];done)|fail) only [sA,↓reduceIte,reduceLT,reduceEqDiff,reduceAdd,reduceLeDiff],.inl ⟨rfl,rfl⟩,by simp +decide only [sG],by simp +decide only [sG],by simp +decide only [sG],by simp +decide only [sG],by simp +decide only [sG],by simp (disch:=first|assumption|omega|(simp (disch:=first|assumption|omega) only [sB,reduceAdd,reduceLT,reduceLeDiff,reduceEqDiff,reduceMul,↓reduceIte];done)|fail) only [sA,↓reduceIte,reduceLT,reduceEqDiff,reduceAdd,reduceLeDiff]⟩
        obtain ⟨ad2,S2⟩ := B2.sv (H2.good n2 (Nat.le_refl _)) aggV
        have hod := S2.okD
        have c3 : ∀ m,n2 ≤ m → callFn (LX (cF Try.prog)) m h2 [(D.agg [.int .i64 (Mn + k),d2])] (cF Try.prog 130) = .ok (D.tup [.agg [.int .i64 (Lev.told (Lev.more ⟨Mn,Mv⟩ k)).1.n,slD 2 encV (Sl.app (Lev.told (Lev.more ⟨Mn,Mv⟩ k)).1.v)],.int .i64 (Lev.told (Lev.more ⟨Mn,Mv⟩ k)).2]) m h2 := fun m hm => lvTold m h2 (H2.good' hm) (Mn + k) d2 (Mv.map (addV k)) ad2 (S2.mono (Hp.start (H2.good' (Nat.le_refl _))) hm) (by rw [List.length_map]; omega)
        rw [hR] at c3
        obtain ⟨⟨Rn,Rv⟩,Re⟩ := R
        have F4 := fun m hm => finish_flat (d := (D.tup [.agg [.int .i64 (((⟨Rn,Rv⟩ : Lev),Re)).1.n,slD 2 encV (Sl.app (((⟨Rn,Rv⟩ : Lev),Re)).1.v)],.int .i64 (((⟨Rn,Rv⟩ : Lev),Re)).2])) (by rw [flat_tup]; simp [flat2_agg,flat1_slD,flat1_int,flat2_int]) ((H2.set (r := n + 2) (x := (Ob.row 2 [.agg [.int .i64 (Rn),slD 2 encV (Sl.app Rv)]])) (by omega) (fun q _ => lowO_one (low_flat (flatL ⟨Rn,Sl.app Rv⟩)))).mono (m := m) hm)
        have b4 : getO (setO h2 (n + 2) (Ob.row 2 [.agg [.int .i64 (Rn),slD 2 encV (Sl.app Rv)]])) (n + 2) = (Ob.row 2 [.agg [.int .i64 (Rn),slD 2 encV (Sl.app Rv)]]) := getO_set1 b2
        simp (disch:=first|assumption|omega|(simp (disch:=first|assumption|omega) only [sB,reduceAdd,reduceLT,reduceLeDiff,reduceEqDiff,reduceMul,↓reduceIte];done)|fail) only [sA,↓reduceIte,reduceLT,reduceEqDiff,reduceAdd,reduceLeDiff,g4,g8,b2,b3,b4,hod,c3,F4]
  · rw [if_neg hb]
    rw [nrm_wrong hb] at c0
    rw [f128_eq]; unfold c128; rw [callFn_eq (by rfl)]
    simp (disch:=first|assumption|omega|(simp (disch:=first|assumption|omega) only [sB,reduceAdd,reduceLT,reduceLeDiff,reduceEqDiff,reduceMul,↓reduceIte];done)|fail) only [sA,↓reduceIte,reduceLT,reduceEqDiff,reduceAdd,reduceLeDiff,c0,s3,slD_nil]
end Go.Proofs.Ytdijijblccmfbaa

/- The greater one of two levels; whether two are one; the numbers that they have. No condition. -/
namespace Go.Proofs.Ytdijijblccmfbaa
open Go
open Nat (reduceAdd reduceLT reduceLeDiff reduceEqDiff reduceMul)

theorem lvMax (n : Nat) (h : Hps) (hg : ∀ k,n ≤ k → GoodAt k h) (N N' : Int) (d d' : D) (l l' : List LV) (ad ad' : Nat → D) (S : Sv 2 encV n h d l ad) (S' : Sv 2 encV n h d' l' ad') (hs : l.length < 1000000000000) (hs' : l'.length < 1000000000000) :
    callFn (LX (cF Try.prog)) n h [(D.agg [.int .i64 (N),d]),(D.agg [.int .i64 (N'),d'])] (cF Try.prog 129) = .ok (D.tup [.agg [.int .i64 (Lev.max2 ⟨N,l⟩ ⟨N',l'⟩).1.n,slD 2 encV (Sl.app (Lev.max2 ⟨N,l⟩ ⟨N',l'⟩).1.v)],.int .i64 (Lev.max2 ⟨N,l⟩ ⟨N',l'⟩).2]) n h := by
  have hgn := hg n (Nat.le_refl _)
  have s3 := S.okD
  have s3' := S'.okD
  have H0 : Hp n h (n + 3) ((n + 2,(Ob.row 2 [.agg [.int .i64 0,.nils]])) :: (n + 1,(Ob.row 2 [.agg [.int .i64 (N'),d']])) :: (n,(Ob.row 2 [.agg [.int .i64 (N),d]])) :: h) := (((Hp.start hg).cons (r := n) (m := n + 1) (Nat.le_refl _) (by omega) (fun k hk => S.box2 (by omega))).cons (m := n + 2) (r := n + 1) (by omega) (by omega) (fun k hk => S'.box2 (by omega))).box (m := n + 3) (r := n + 2) (by omega) (by omega) rfl
  have c0 : ∀ m,n + 3 ≤ m → callFn (LX (cF Try.prog)) m ((n + 2,(Ob.row 2 [.agg [.int .i64 0,.nils]])) :: (n + 1,(Ob.row 2 [.agg [.int .i64 (N'),d']])) :: (n,(Ob.row 2 [.agg [.int .i64 (N),d]])) :: h) [(D.agg [.int .i64 (N),d])] (cF Try.prog 126) = .ok (D.tup [.agg [.int .i64 (Lev.nrm ⟨N,l⟩).1.n,slD 2 encV (Sl.app (Lev.nrm ⟨N,l⟩).1.v)],.int .i64 (Lev.nrm ⟨N,l⟩).2]) m ((n + 2,(Ob.row 2 [.agg [.int .i64 0,.nils]])) :: (n + 1,(Ob.row 2 [.agg [.int .i64 (N'),d']])) :: (n,(Ob.row 2 [.agg [.int .i64 (N),d]])) :: h) := fun m hm => lvNorm m _ (H0.good' hm) N d l ad (S.mono H0 hm) hs
  unfold Lev.max2
  by_cases hb : Lev.right ⟨N,l⟩ = true
  · rw [if_pos hb]
    rw [nrm_right hb] at c0
    have hr := right_iff.1 (right_norm hb)
    generalize hM : Lev.norm ⟨N,l⟩ = M at c0 hr ⊢
    obtain ⟨Mn,Mv⟩ := M
    obtain ⟨hMn,hlen,hMv⟩ := hr
    replace hlen : Mv.length ≤ 64 := hlen
    replace hMn : 0 ≤ Mn ∧ Mn ≤ 1000 := hMn
    have H1 : Hp n h (n + 3) ((n + 2,(Ob.row 2 [.agg [.int .i64 0,.nils]])) :: (n + 1,(Ob.row 2 [.agg [.int .i64 (N'),d']])) :: (n,(Ob.row 2 [.agg [.int .i64 (Mn),slD 2 encV (Sl.app Mv)]])) :: h) := (((Hp.start hg).box (r := n) (m := n + 1) (Nat.le_refl _) (by omega) (flatL ⟨Mn,Sl.app Mv⟩)).cons (m := n + 2) (r := n + 1) (by omega) (by omega) (fun k hk => S'.box2 (by omega))).box (m := n + 3) (r := n + 2) (by omega) (by omega) rfl
    have c1 : ∀ m,n + 3 ≤ m → callFn (LX (cF Try.prog)) m ((n + 2,(Ob.row 2 [.agg [.int .i64 0,.nils]])) :: (n + 1,(Ob.row 2 [.agg [.int .i64 (N'),d']])) :: (n,(Ob.row 2 [.agg [.int .i64 (Mn),slD 2 encV (Sl.app Mv)]])) :: h) [(D.agg [.int .i64 (N'),d'])] (cF Try.prog 126) = .ok (D.tup [.agg [.int .i64 (Lev.nrm ⟨N',l'⟩).1.n,slD 2 encV (Sl.app (Lev.nrm ⟨N',l'⟩).1.v)],.int .i64 (Lev.nrm ⟨N',l'⟩).2]) m ((n + 2,(Ob.row 2 [.agg [.int .i64 0,.nils]])) :: (n + 1,(Ob.row 2 [.agg [.int .i64 (N'),d']])) :: (n,(Ob.row 2 [.agg [.int .i64 (Mn),slD 2 encV (Sl.app Mv)]])) :: h) := fun m hm => lvNorm m _ (H1.good' hm) N' d' l' ad' (S'.mono H1 hm) hs'
    by_cases hb' : Lev.right ⟨N',l'⟩ = true
    · rw [if_pos hb']
      rw [nrm_right hb'] at c1
      have hr' := right_iff.1 (right_norm hb')
      generalize hM' : Lev.norm ⟨N',l'⟩ = M' at c1 hr' ⊢
      obtain ⟨Mn',Mv'⟩ := M'
      obtain ⟨hMn',hlen',hMv'⟩ := hr'
      replace hlen' : Mv'.length ≤ 64 := hlen'
      replace hMn' : 0 ≤ Mn' ∧ Mn' ≤ 1000 := hMn'
      have H2 : Hp n h (n + 3) ((n + 2,(Ob.row 2 [.agg [.int .i64 0,.nils]])) :: (n + 1,(Ob.row 2 [.agg [.int .i64 (Mn'),slD 2 encV (Sl.app Mv')]])) :: (n,(Ob.row 2 [.agg [.int .i64 (Mn),slD 2 encV (Sl.app Mv)]])) :: h) := (((Hp.start hg).box (r := n) (m := n + 1) (Nat.le_refl _) (by omega) (flatL ⟨Mn,Sl.app Mv⟩)).box (m := n + 2) (r := n + 1) (by omega) (by omega) (flatL ⟨Mn',Sl.app Mv'⟩)).box (m := n + 3) (r := n + 2) (by omega) (by omega) rfl
      have c2 : ∀ m,callFn (LX (cF Try.prog)) m [] [slD 2 encV (Sl.app Mv),slD 2 encV (Sl.app Mv'),.fn 140 [] [],.fn 141 [] []] (cF Try.prog 139) = .ok (slD 2 encV (Sl.app (merge Mv Mv'))) m [] := fun m => lvJoined m [] (fun _ _ => good_nil) (Sl.app Mv) (Sl.app Mv') (show Mv.length + Mv'.length < _ by omega)
      have hml : (merge Mv Mv').length ≤ 128 := by
        have hn := (nfL_nf l).srt
        have hn' := (nfL_nf l').srt
        have e1 : Mv = nfL l := by have := congrArg Lev.v hM; exact this.symm
        have e2 : Mv' = nfL l' := by have := congrArg Lev.v hM'; exact this.symm
        have := nf_len (merge_nf (a := Mv) (b := Mv') (by rw [e1]; exact hn) (by rw [e2]; exact hn'))
        rw [List.length_append] at this
        omega
      have c3 : ∀ m,n + 3 ≤ m → callFn (LX (cF Try.prog)) m ((n + 2,(Ob.row 2 [.agg [.int .i64 0,.nils]])) :: (n + 1,(Ob.row 2 [.agg [.int .i64 (Mn'),slD 2 encV (Sl.app Mv')]])) :: (n,(Ob.row 2 [.agg [.int .i64 (Mn),slD 2 encV (Sl.app Mv)]])) :: h) [(D.agg [.int .i64 (max Mn Mn'),slD 2 encV (Sl.app (merge Mv Mv'))])] (cF Try.prog 130) = .ok (D.tup [.agg [.int .i64 (Lev.told (Lev.join ⟨Mn,Mv⟩ ⟨Mn',Mv'⟩)).1.n,slD 2 encV (Sl.app (Lev.told (Lev.join ⟨Mn,Mv⟩ ⟨Mn',Mv'⟩)).1.v)],.int .i64 (Lev.told (Lev.join ⟨Mn,Mv⟩ ⟨Mn',Mv'⟩)).2]) m ((n + 2,(Ob.row 2 [.agg [.int .i64 0,.nils]])) :: (n + 1,(Ob.row 2 [.agg [.int .i64 (Mn'),slD 2 encV (Sl.app Mv')]])) :: (n,(Ob.row 2 [.agg [.int .i64 (Mn),slD 2 encV (Sl.app Mv)]])) :: h) := fun m hm => lvTold m _ (H2.good' hm) (max Mn Mn') _ (merge Mv Mv') _ (svA _) (by omega)
      have hK : ∀ m,n + 3 ≤ m → keysFrom m ((n + 2,(Ob.row 2 [.agg [.int .i64 0,.nils]])) :: (n + 1,(Ob.row 2 [.agg [.int .i64 (Mn'),slD 2 encV (Sl.app Mv')]])) :: (n,(Ob.row 2 [.agg [.int .i64 (Mn),slD 2 encV (Sl.app Mv)]])) :: h) = [] := fun m hm => keys_low (H2.good' hm m (Nat.le_refl _))
      generalize hR : Lev.told (Lev.join ⟨Mn,Mv⟩ ⟨Mn',Mv'⟩) = R at c3 ⊢
      obtain ⟨⟨Rn,Rv⟩,Re⟩ := R
      rw [f129_eq]; unfold c129; rw [callFn_eq (by rfl)]
      simp (disch:=first|assumption|omega|(simp (disch:=first|assumption|omega) only [sB,reduceAdd,reduceLT,reduceLeDiff,reduceEqDiff,reduceMul,↓reduceIte];done)|fail) only [sA,↓reduceIte,reduceLT,reduceEqDiff,reduceAdd,reduceLeDiff,c0,c1,c2,c3,s3,s3',hK]
    · rw [if_neg hb']
      rw [nrm_wrong hb'] at c1
      rw [f129_eq]; unfold c129; rw [callFn_eq (by rfl)]
      simp (disch:=first|assumption|omega|(simp (disch:=first|assumption|omega) only [sB,reduceAdd,reduceLT,reduceLeDiff,reduceEqDiff,reduceMul,↓reduceIte];done)|fail) only [sA,↓reduceIte,reduceLT,reduceEqDiff,reduceAdd,reduceLeDiff,c0,c1,s3,s3',slD_nil]
  · rw [if_neg hb]
    rw [nrm_wrong hb] at c0
    rw [f129_eq]; unfold c129; rw [callFn_eq (by rfl)]
    simp (disch:=first|assumption|omega|(simp (disch:=first|assumption|omega) only [sB,reduceAdd,reduceLT,reduceLeDiff,reduceEqDiff,reduceMul,↓reduceIte];done)|fail) only [sA,↓reduceIte,reduceLT,reduceEqDiff,reduceAdd,reduceLeDiff,c0,s3,s3',slD_nil]
end Go.Proofs.Ytdijijblccmfbaa
/- Levels put in for the variables of a level,as the program does it. No condition. -/
namespace Go.Proofs.Ytdijijblccmfbaa
open Go
open Nat (reduceAdd reduceLT reduceLeDiff reduceEqDiff reduceMul)

def badL : Lev × Int := (⟨0,[]⟩,13)
def sbLoop (args : List Lev) : List LV → Lev → Lev × Int
  | [],out => out.told
  | v :: t,out => match args[v.1.toNat]? with
    | none => badL
    | some a => if (a.suc v.2).2 ≠ 0 then badL else if (out.max2 (a.suc v.2).1).2 ≠ 0 then badL else sbLoop args t (out.max2 (a.suc v.2).1).1
def Lev.subst (l : Lev) (args : List Lev) : Lev × Int := if l.right then (if args.all Lev.right then sbLoop args l.norm.v ⟨l.norm.n,[]⟩ else badL) else badL
theorem told_size (l : Lev) : l.told.1.v.length ≤ 64 := by
  unfold Lev.told
  split
  · rename_i h; exact (right_iff.1 h).2.1
  · exact Nat.zero_le _
theorem suc_size (l : Lev) (k : Int) : (l.suc k).1.v.length ≤ 64 := by
  unfold Lev.suc
  split
  · split
    · exact Nat.zero_le _
    · split
      · exact Nat.zero_le _
      · exact told_size _
  · exact Nat.zero_le _
theorem max_size (a b : Lev) : (a.max2 b).1.v.length ≤ 64 := by
  unfold Lev.max2
  split
  · split
    · exact told_size _
    · exact Nat.zero_le _
  · exact Nat.zero_le _

set_option maxHeartbeats 4000000 in
theorem lvSubst (n : Nat) (h : Hps) (hg : ∀ k,n ≤ k → GoodAt k h) (N : Int) (d : D) (l : List LV) (ad : Nat → D) (S : Sv 2 encV n h d l ad) (hs : l.length < 1000000000000) (args : Sl SLev) (ha : args.el.length < 1000000000000) (hz : ∀ a,a ∈ args.el → sizeOk a) :
    callFn (LX (cF Try.prog)) n h [(D.agg [.int .i64 (N),d]),slD 2 encL args] (cF Try.prog 116) = .ok (D.tup [.agg [.int .i64 (Lev.subst ⟨N,l⟩ (args.el.map SLev.lev)).1.n,slD 2 encV (Sl.app (Lev.subst ⟨N,l⟩ (args.el.map SLev.lev)).1.v)],.int .i64 (Lev.subst ⟨N,l⟩ (args.el.map SLev.lev)).2]) n h := by
  have s3 := S.okD
  have hgn := hg n (Nat.le_refl _)
  have H0 : Hp n h (n + 2) ((n + 1,(Ob.row 2 [.agg [.int .i64 0,.nils]])) :: (n,(Ob.row 2 [.agg [.int .i64 (N),d]])) :: h) := ((Hp.start hg).cons (r := n) (m := n + 1) (Nat.le_refl _) (by omega) (fun k hk => S.box2 (by omega))).box (m := n + 2) (r := n + 1) (by omega) (by omega) rfl
  have c0 : ∀ m,n + 2 ≤ m → callFn (LX (cF Try.prog)) m ((n + 1,(Ob.row 2 [.agg [.int .i64 0,.nils]])) :: (n,(Ob.row 2 [.agg [.int .i64 (N),d]])) :: h) [(D.agg [.int .i64 (N),d])] (cF Try.prog 126) = .ok (D.tup [.agg [.int .i64 (Lev.nrm ⟨N,l⟩).1.n,slD 2 encV (Sl.app (Lev.nrm ⟨N,l⟩).1.v)],.int .i64 (Lev.nrm ⟨N,l⟩).2]) m ((n + 1,(Ob.row 2 [.agg [.int .i64 0,.nils]])) :: (n,(Ob.row 2 [.agg [.int .i64 (N),d]])) :: h) := fun m hm => lvNorm m _ (H0.good' hm) N d l ad (S.mono H0 hm) hs
  unfold Lev.subst
  by_cases hb : Lev.right ⟨N,l⟩ = true
  · rw [if_pos hb]
    rw [nrm_right hb] at c0
    have hr := right_iff.1 (right_norm hb)
    generalize hN : Lev.norm ⟨N,l⟩ = M at c0 hr ⊢
    obtain ⟨Mn,Mv⟩ := M
    obtain ⟨hMn,hlen,hMv⟩ := hr
    replace hlen : Mv.length ≤ 64 := hlen
    have H1 : Hp n h (n + 2) ((n + 1,(Ob.row 2 [.agg [.int .i64 0,.nils]])) :: (n,(Ob.row 2 [.agg [.int .i64 (Mn),slD 2 encV (Sl.app Mv)]])) :: h) := ((Hp.start hg).box (r := n) (m := n + 1) (Nat.le_refl _) (by omega) (flatL ⟨Mn,Sl.app Mv⟩)).box (m := n + 2) (r := n + 1) (by omega) (by omega) rfl
    generalize hR : (if ((args.el.map SLev.lev).all Lev.right) = true then sbLoop (args.el.map SLev.lev) Mv ⟨Mn,[]⟩ else badL) = R
    replace hR : (if ((args.el.map SLev.lev).all Lev.right) = true then sbLoop (args.el.map SLev.lev) Mv ⟨Mn,[]⟩ else badL) = R := hR
    rw [f116_eq]; unfold c116; rw [callFn_eq (by rfl)]
    simp (disch:=first|assumption|omega|(simp (disch:=first|assumption|omega) only [sB,reduceAdd,reduceLT,reduceLeDiff,reduceEqDiff,reduceMul,↓reduceIte];done)|fail) only [sA,↓reduceIte,reduceLT,reduceEqDiff,reduceAdd,reduceLeDiff,c0,s3]
    generalize hr : LX (cF Try.prog) (.loop l116_0) _ _ _ = r
    obtain ⟨x,e2,n2,h2,rfl,H2,p2,q⟩ := loop_up hr args.el.length
      (fun i e n' h' => Hp n h n' h' ∧ n + 2 ≤ n' ∧ getO h' n = (Ob.row 2 [.agg [.int .i64 (Mn),slD 2 encV (Sl.app Mv)]]) ∧ getO h' (n + 1) = (Ob.row 2 [.agg [.int .i64 0,.nils]]) ∧ ((args.el.map SLev.lev).drop i).all Lev.right = (args.el.map SLev.lev).all Lev.right ∧ get (po 1) e = slD 2 encL args ∧ get (po 2) e = .ptr n 0 0 ∧ get (po 4) e = .ptr (n + 1) 0 0 ∧ get (po 23) e = slD 2 encL args ∧ get (po 24) e = .int .i64 (args.el.length : Nat) ∧ get (po 25) e = .int .i64 (i : Nat))
      (fun x e n' h' => Hp n h n' h' ∧ n + 2 ≤ n' ∧ ((x = .exit 0 ∧ (args.el.map SLev.lev).all Lev.right = true ∧ getO h' n = (Ob.row 2 [.agg [.int .i64 (Mn),slD 2 encV (Sl.app Mv)]]) ∧ getO h' (n + 1) = (Ob.row 2 [.agg [.int .i64 0,.nils]]) ∧ get (po 1) e = slD 2 encL args ∧ get (po 2) e = .ptr n 0 0 ∧ get (po 4) e = .ptr (n + 1) 0 0) ∨
        (x = .ret ∧ (args.el.map SLev.lev).all Lev.right = false ∧ getO h' (n + 1) = (Ob.row 2 [.agg [.int .i64 0,.nils]]) ∧ get (po 4) e = .ptr (n + 1) 0 0 ∧ get (po 5) e = .int .i64 13)))
      (by
        rintro e n' h' ⟨H,p1,b0,b1,hall,g1,g2,g4,g23,g24,g25⟩
        unfold l116_0
        simp (disch:=first|assumption|omega|(simp (disch:=first|assumption|omega) only [sB,reduceAdd,reduceLT,reduceLeDiff,reduceEqDiff,reduceMul,↓reduceIte];done)|fail) only [sA,↓reduceIte,reduceLT,reduceEqDiff,reduceAdd,reduceLeDiff,g23,g24,g25]
        exact ⟨_,_,_,_,rfl,by simp,H.mono (by omega),by omega,.inl ⟨rfl,by rw [← hall,← List.length_map (f := SLev.lev),List.drop_length]; rfl,b0,b1,by simp +decide only [sG,g1],by simp +decide only [sG,g2],by simp +decide only [sG,g4]⟩⟩)
      (by
        rintro i e n' h' hi ⟨H,p1,b0,b1,hall,g1,g2,g4,g23,g24,g25⟩
        rw [List.drop_eq_getElem_cons (by rw [List.length_map]; exact hi),List.all_cons,List.getElem_map] at hall
        have H1 : Hp n h (n' + 4) ((n' + 3,(Ob.row 2 [.agg [.int .i64 (args.el[i].n),slD 2 encV (args.el[i].vs)]])) :: h') := H.box (by omega) (by omega) (flatL args.el[i])
        have c1 : ∀ m,n' + 4 ≤ m → callFn (LX (cF Try.prog)) m ((n' + 3,(Ob.row 2 [.agg [.int .i64 (args.el[i].n),slD 2 encV (args.el[i].vs)]])) :: h') [(D.agg [.int .i64 (args.el[i].n),slD 2 encV (args.el[i].vs)])] (cF Try.prog 127) = .ok (.bool args.el[i].lev.right) m ((n' + 3,(Ob.row 2 [.agg [.int .i64 (args.el[i].n),slD 2 encV (args.el[i].vs)]])) :: h') := fun m hm => lvRight m _ (H1.good' hm) _ _ _ _ (svV _) (hz _ (List.getElem_mem hi))
        unfold l116_0
        cases hri : args.el[i].lev.right with
        | true =>
          rw [hri] at c1 hall
          simp (disch:=first|assumption|omega|(simp (disch:=first|assumption|omega) only [sB,reduceAdd,reduceLT,reduceLeDiff,reduceEqDiff,reduceMul,↓reduceIte];done)|fail) only [sA,↓reduceIte,reduceLT,reduceEqDiff,reduceAdd,reduceLeDiff,g23,g24,g25,encL,c1]
          exact ⟨_,_,_,_,rfl,.inl ⟨rfl,H1.mono (by omega),by omega,getO_keep b0 (by omega),getO_keep b1 (by omega),hall,by simp +decide only [sG,g1],by simp +decide only [sG,g2],by simp +decide only [sG,g4],by simp +decide only [sG,g23],by simp +decide only [sG,g24],by simp +decide only [sG]⟩⟩
        | false =>
          rw [hri] at c1 hall
          simp (disch:=first|assumption|omega|(simp (disch:=first|assumption|omega) only [sB,reduceAdd,reduceLT,reduceLeDiff,reduceEqDiff,reduceMul,↓reduceIte];done)|fail) only [sA,↓reduceIte,reduceLT,reduceEqDiff,reduceAdd,reduceLeDiff,g4,g23,g24,g25,encL,c1,b1]
          exact ⟨_,_,_,_,rfl,.inr ⟨by simp,((H.set (r := n + 1) (x := (Ob.row 2 [.agg [.int .i64 0,.nils]])) (by omega) (fun q _ => lowO_one (low_flat rfl))).box (r := n' + 3) (m := n' + 4) (by omega) (by omega) (flatL args.el[i])).mono (by omega),by omega,.inr ⟨rfl,hall.symm,getO_keep (getO_set1 b1) (by omega),by simp +decide only [sG,g4],by simp +decide only [sG]⟩⟩⟩)
      ⟨H1.mono (by omega),by omega,by simp (disch:=first|assumption|omega|(simp (disch:=first|assumption|omega) only [sB,reduceAdd,reduceLT,reduceLeDiff,reduceEqDiff,reduceMul,↓reduceIte];done)|fail) only [sA,↓reduceIte,reduceLT,reduceEqDiff,reduceAdd,reduceLeDiff],by simp (disch:=first|assumption|omega|(simp (disch:=first|assumption|omega) only [sB,reduceAdd,reduceLT,reduceLeDiff,reduceEqDiff,reduceMul,↓reduceIte];done)|fail) only [sA,↓reduceIte,reduceLT,reduceEqDiff,reduceAdd,reduceLeDiff],rfl,by simp +decide only [sG],by simp +decide only [sG],by simp +decide only [sG],by simp +decide only [sG],by simp +decide only [sG],by simp (disch:=first|assumption|omega|(simp (disch:=first|assumption|omega) only [sB,reduceAdd,reduceLT,reduceLeDiff,reduceEqDiff,reduceMul,↓reduceIte];done)|fail) only [sA,↓reduceIte,reduceLT,reduceEqDiff,reduceAdd,reduceLeDiff]⟩
    rcases q with ⟨rfl,hall,b0,b1,g1,g2,g4⟩ | ⟨rfl,hall,b1,g4,g5⟩
    · rw [if_pos hall] at hR
      simp (disch:=first|assumption|omega|(simp (disch:=first|assumption|omega) only [sB,reduceAdd,reduceLT,reduceLeDiff,reduceEqDiff,reduceMul,↓reduceIte];done)|fail) only [sA,↓reduceIte,reduceLT,reduceEqDiff,reduceAdd,reduceLeDiff,g1,g2,g4,b0]
      generalize hr : LX (cF Try.prog) (.loop l116_1) _ _ _ = r
      obtain ⟨q9,e9⟩ : ∃ q9,n2 + 3 = q9 := ⟨_,rfl⟩
      rw [e9] at hr
      obtain ⟨x,e3,n3,h3,rfl,H3,p3,b1,g4,q⟩ := loop_up hr Mv.length
        (fun i e n' h' => Hp n h n' h' ∧ q9 + 1 ≤ n' ∧ getO h' (n + 1) = (Ob.row 2 [.agg [.int .i64 0,.nils]]) ∧ get (po 4) e = .ptr (n + 1) 0 0 ∧ ∃ (On : Int) (Ov : List LV),sbLoop (args.el.map SLev.lev) (Mv.drop i) ⟨On,Ov⟩ = R ∧ Ov.length ≤ 64 ∧ getO h' q9 = (Ob.row 2 [.agg [.int .i64 (On),slD 2 encV (Sl.app Ov)]]) ∧
          get (po 1) e = slD 2 encL args ∧ get (po 9) e = .ptr q9 0 0 ∧ get (po 38) e = slD 2 encV (Sl.app Mv) ∧ get (po 39) e = .int .i64 (Mv.length : Nat) ∧ get (po 40) e = .int .i64 (i : Nat))
        (fun x e n' h' => Hp n h n' h' ∧ q9 + 1 ≤ n' ∧ getO h' (n + 1) = (Ob.row 2 [.agg [.int .i64 0,.nils]]) ∧ get (po 4) e = .ptr (n + 1) 0 0 ∧ ((x = .exit 2 ∧ ∃ (On : Int) (Ov : List LV),(⟨On,Ov⟩ : Lev).told = R ∧ Ov.length ≤ 64 ∧ getO h' q9 = (Ob.row 2 [.agg [.int .i64 (On),slD 2 encV (Sl.app Ov)]]) ∧ get (po 9) e = .ptr q9 0 0) ∨
          (x = .ret ∧ R = badL ∧ get (po 5) e = .int .i64 13)))
        (by
          rintro e n' h' ⟨H,p1,b1,g4,On,Ov,hS,hO,b9,g1,g9,g38,g39,g40⟩
          rw [List.drop_length] at hS
          unfold l116_1
          simp (disch:=first|assumption|omega|(simp (disch:=first|assumption|omega) only [sB,reduceAdd,reduceLT,reduceLeDiff,reduceEqDiff,reduceMul,↓reduceIte];done)|fail) only [sA,↓reduceIte,reduceLT,reduceEqDiff,reduceAdd,reduceLeDiff,g38,g39,g40]
          exact ⟨_,_,_,_,rfl,by simp,H.mono (by omega),by omega,b1,by simp +decide only [sG,g4],.inl ⟨rfl,On,Ov,hS,hO,b9,by simp +decide only [sG,g9]⟩⟩)
        (by
          rintro i e n' h' hi ⟨H,p1,b1,g4,On,Ov,hS,hO,b9,g1,g9,g38,g39,g40⟩
          have hnn := H2.le
          rw [List.drop_eq_getElem_cons hi] at hS
          have hv := hMv Mv[i] (List.getElem_mem hi)
          generalize hV : Mv[i] = V at hS hv
          obtain ⟨va,vb⟩ := V
          obtain ⟨vn,rfl⟩ : ∃ vn : Nat,va = (vn : Int) := Int.eq_ofNat_of_zero_le hv.1.1
          have hl : ∀ q,lowO q (Ob.row 2 [.agg [.int .i64 0,.nils]]) := fun q => lowO_one (low_flat rfl)
          have H1 : Hp n h (n' + 4) ((n' + 3,.row 2 [.agg [.int .i64 (vn : Int),.int .i64 vb]]) :: h') := H.box (by omega) (by omega) rfl
          have HZ : Hp n h (n' + 4) ((n' + 3,.row 2 [.agg [.int .i64 (vn : Int),.int .i64 vb]]) :: setO h' (n + 1) (Ob.row 2 [.agg [.int .i64 0,.nils]])) := (H.set (r := n + 1) (x := (Ob.row 2 [.agg [.int .i64 0,.nils]])) (by omega) (fun q _ => hl q)).box (by omega) (by omega) rfl
          have hK : ∀ m,n' + 4 ≤ m → keysFrom m ((n' + 3,.row 2 [.agg [.int .i64 (vn : Int),.int .i64 vb]]) :: h') = [] := fun m hm => keys_low (H1.good' hm m (Nat.le_refl _))
          have hi2 : i < (Sl.app Mv).el.length := hi
          have hV2 : (Sl.app Mv).el[i] = ((vn : Int),vb) := hV
          unfold sbLoop at hS
          simp only [Int.toNat_natCast] at hS
          by_cases a1 : vn < args.el.length
          · rw [List.getElem?_map,List.getElem?_eq_getElem a1] at hS
            replace hS : (if ((args.el[vn]).lev.suc vb).2 ≠ 0 then badL else if ((⟨On,Ov⟩ : Lev).max2 ((args.el[vn]).lev.suc vb).1).2 ≠ 0 then badL else sbLoop (args.el.map SLev.lev) (Mv.drop (i + 1)) ((⟨On,Ov⟩ : Lev).max2 ((args.el[vn]).lev.suc vb).1).1) = R := hS
            have c1 : ∀ m,callFn (LX (cF Try.prog)) m [] [(D.agg [.int .i64 (args.el[vn].n),slD 2 encV (args.el[vn].vs)]),.int .i64 vb] (cF Try.prog 128) = .ok (D.tup [.agg [.int .i64 (Lev.suc (args.el[vn].lev) vb).1.n,slD 2 encV (Sl.app (Lev.suc (args.el[vn].lev) vb).1.v)],.int .i64 (Lev.suc (args.el[vn].lev) vb).2]) m [] := fun m => lvSuc m [] (fun _ _ => good_nil) _ vb _ _ _ (svV _) (hz _ (List.getElem_mem a1))
            have c1' : ∀ m,n' + 4 ≤ m → callFn (LX (cF Try.prog)) m ((n' + 3,.row 2 [.agg [.int .i64 (vn : Int),.int .i64 vb]]) :: h') [(D.agg [.int .i64 (args.el[vn].n),slD 2 encV (args.el[vn].vs)]),.int .i64 vb] (cF Try.prog 128) = .ok (D.tup [.agg [.int .i64 (Lev.suc (args.el[vn].lev) vb).1.n,slD 2 encV (Sl.app (Lev.suc (args.el[vn].lev) vb).1.v)],.int .i64 (Lev.suc (args.el[vn].lev) vb).2]) m ((n' + 3,.row 2 [.agg [.int .i64 (vn : Int),.int .i64 vb]]) :: h') := fun m hm => lvSuc m _ (H1.good' hm) _ vb _ _ _ (svV _) (hz _ (List.getElem_mem a1))
            have hsz := suc_size (args.el[vn].lev) vb
            generalize Lev.suc (args.el[vn].lev) vb = A at hS c1 c1' hsz
            obtain ⟨⟨An,Av⟩,Ae⟩ := A
            replace hsz : Av.length ≤ 64 := hsz
            by_cases a2 : Ae = 0
            · subst a2
              rw [if_neg (by simp)] at hS
              have c2 : ∀ X m,n' + 4 ≤ X → X + 1 ≤ m → callFn (LX (cF Try.prog)) m ((X,(Ob.row 2 [.agg [.int .i64 (An),slD 2 encV (Sl.app Av)]])) :: (n' + 3,.row 2 [.agg [.int .i64 (vn : Int),.int .i64 vb]]) :: h') [(D.agg [.int .i64 (On),slD 2 encV (Sl.app Ov)]),(D.agg [.int .i64 (An),slD 2 encV (Sl.app Av)])] (cF Try.prog 129) = .ok (D.tup [.agg [.int .i64 (Lev.max2 ⟨On,Ov⟩ ⟨An,Av⟩).1.n,slD 2 encV (Sl.app (Lev.max2 ⟨On,Ov⟩ ⟨An,Av⟩).1.v)],.int .i64 (Lev.max2 ⟨On,Ov⟩ ⟨An,Av⟩).2]) m ((X,(Ob.row 2 [.agg [.int .i64 (An),slD 2 encV (Sl.app Av)]])) :: (n' + 3,.row 2 [.agg [.int .i64 (vn : Int),.int .i64 vb]]) :: h') := fun X m hX hm => lvMax m _ ((H1.box (r := X) (m := X + 1) hX (by omega) (flatL ⟨An,Sl.app Av⟩)).good' hm) _ _ _ _ _ _ _ _ (svA Ov) (svA Av) (by omega) (by omega)
              have hms := max_size ⟨On,Ov⟩ ⟨An,Av⟩
              replace hS : (if (Lev.max2 ⟨On,Ov⟩ ⟨An,Av⟩).2 ≠ 0 then badL else sbLoop (args.el.map SLev.lev) (Mv.drop (i + 1)) (Lev.max2 ⟨On,Ov⟩ ⟨An,Av⟩).1) = R := hS
              generalize Lev.max2 ⟨On,Ov⟩ ⟨An,Av⟩ = X2 at hS c2 hms
              obtain ⟨⟨Xn,Xv⟩,Xe⟩ := X2
              have b9' := getO_set1 (x := (Ob.row 2 [.agg [.int .i64 (Xn),slD 2 encV (Sl.app Xv)]])) b9
              have b1q : getO (setO h' q9 (Ob.row 2 [.agg [.int .i64 (Xn),slD 2 encV (Sl.app Xv)]])) (n + 1) = (Ob.row 2 [.agg [.int .i64 0,.nils]]) := getO_set2 b9 b1 (by omega)
              have HX : Hp n h n' (setO h' q9 (Ob.row 2 [.agg [.int .i64 (Xn),slD 2 encV (Sl.app Xv)]])) := H.set (by omega) (fun q _ => lowO_one (low_flat (flatL ⟨Xn,Sl.app Xv⟩)))
              unfold l116_1
              by_cases a3 : Xe = 0
              · subst a3
                rw [if_neg (by simp)] at hS
                simp (disch:=first|assumption|omega|(simp (disch:=first|assumption|omega) only [sB,reduceAdd,reduceLT,reduceLeDiff,reduceEqDiff,reduceMul,↓reduceIte];done)|fail) only [sA,↓reduceIte,reduceLT,reduceEqDiff,reduceAdd,reduceLeDiff,g1,g4,g9,g38,g39,g40,hV,encV,encL,b9,c1,c1',c2,hK]
                exact ⟨_,_,_,_,rfl,.inl ⟨rfl,((HX.box (r := n' + 3) (m := n' + 4) (by omega) (by omega) rfl).box (by omega) (Nat.lt_succ_self _) (flatL ⟨An,Sl.app Av⟩)).mono (by omega),by omega,getO_keep (getO_keep b1q (by omega)) (by omega),by simp +decide only [sG,g4],Xn,Xv,hS,hms,getO_keep (getO_keep b9' (by omega)) (by omega),by simp +decide only [sG,g1],by simp +decide only [sG,g9],by simp +decide only [sG,g38],by simp +decide only [sG,g39],by simp +decide only [sG]⟩⟩
              · rw [if_pos a3] at hS
                simp (disch:=first|assumption|omega|(simp (disch:=first|assumption|omega) only [sB,reduceAdd,reduceLT,reduceLeDiff,reduceEqDiff,reduceMul,↓reduceIte];done)|fail) only [sA,↓reduceIte,reduceLT,reduceEqDiff,reduceAdd,reduceLeDiff,g1,g4,g9,g38,g39,g40,hV,encV,encL,b9,c1,c1',c2,hK,b1q]
                exact ⟨_,_,_,_,rfl,.inr ⟨by simp,(((HX.set (r := n + 1) (x := (Ob.row 2 [.agg [.int .i64 0,.nils]])) (by omega) (fun q _ => hl q)).box (r := n' + 3) (m := n' + 4) (by omega) (by omega) rfl).box (by omega) (Nat.lt_succ_self _) (flatL ⟨An,Sl.app Av⟩)).mono (by omega),by omega,getO_keep (getO_keep (getO_set1 b1q) (by omega)) (by omega),by simp +decide only [sG,g4],.inr ⟨rfl,hS.symm,by simp +decide only [sG]⟩⟩⟩
            · rw [if_pos a2] at hS
              unfold l116_1
              simp (disch:=first|assumption|omega|(simp (disch:=first|assumption|omega) only [sB,reduceAdd,reduceLT,reduceLeDiff,reduceEqDiff,reduceMul,↓reduceIte];done)|fail) only [sA,↓reduceIte,reduceLT,reduceEqDiff,reduceAdd,reduceLeDiff,g1,g4,g9,g38,g39,g40,hV,encV,encL,b1,c1,c1',hK]
              exact ⟨_,_,_,_,rfl,.inr ⟨by simp,(HZ.box (by omega) (Nat.lt_succ_self _) (flatL ⟨An,Sl.app Av⟩)).mono (by omega),by omega,getO_keep (getO_keep (getO_set1 b1) (by omega)) (by omega),by simp +decide only [sG,g4],.inr ⟨rfl,hS.symm,by simp +decide only [sG]⟩⟩⟩
          · rw [List.getElem?_eq_none (by rw [List.length_map]; omega)] at hS
            unfold l116_1
            simp (disch:=first|assumption|omega|(simp (disch:=first|assumption|omega) only [sB,reduceAdd,reduceLT,reduceLeDiff,reduceEqDiff,reduceMul,↓reduceIte];done)|fail) only [sA,↓reduceIte,reduceLT,reduceEqDiff,reduceAdd,reduceLeDiff,g1,g4,g9,g38,g39,g40,hV,encV,b1]
            exact ⟨_,_,_,_,rfl,.inr ⟨by simp,HZ.mono (by omega),by omega,getO_keep (getO_set1 b1) (by omega),by simp +decide only [sG,g4],.inr ⟨rfl,hS.symm,by simp +decide only [sG]⟩⟩⟩)
        ⟨(H2.box (r := q9) (m := q9 + 1) (by omega) (by omega) rfl).mono (by omega),by omega,getO_keep b1 (by omega),by simp +decide only [sG,g4],Mn,[],hR,by simp,by simp (disch:=first|assumption|omega|(simp (disch:=first|assumption|omega) only [sB,reduceAdd,reduceLT,reduceLeDiff,reduceEqDiff,reduceMul,↓reduceIte];done)|fail) only [sA,↓reduceIte,reduceLT,reduceEqDiff,reduceAdd,reduceLeDiff]; rfl,by simp +decide only [sG,g1],by simp +decide only [sG],by simp +decide only [sG],by simp +decide only [sG],by simp (disch:=first|assumption|omega|(simp (disch:=first|assumption|omega) only [sB,reduceAdd,reduceLT,reduceLeDiff,reduceEqDiff,reduceMul,↓reduceIte];done)|fail) only [sA,↓reduceIte,reduceLT,reduceEqDiff,reduceAdd,reduceLeDiff]⟩
      rcases q with ⟨rfl,On,Ov,hS,hO,b9,g9⟩ | ⟨rfl,rfl,g5⟩
      · have c3 : ∀ m,n3 ≤ m → callFn (LX (cF Try.prog)) m h3 [(D.agg [.int .i64 (On),slD 2 encV (Sl.app Ov)])] (cF Try.prog 130) = .ok (D.tup [.agg [.int .i64 (Lev.told ⟨On,Ov⟩).1.n,slD 2 encV (Sl.app (Lev.told ⟨On,Ov⟩).1.v)],.int .i64 (Lev.told ⟨On,Ov⟩).2]) m h3 := fun m hm => lvTold m h3 (H3.good' hm) On _ Ov _ (svA Ov) (by omega)
        rw [hS] at c3
        obtain ⟨⟨Rn,Rv⟩,Re⟩ := R
        have F4 := fun m hm => finish_flat (flatR (⟨Rn,Rv⟩,Re)) ((H3.set (r := n + 1) (x := (Ob.row 2 [.agg [.int .i64 (Rn),slD 2 encV (Sl.app Rv)]])) (by omega) (fun q _ => lowO_one (low_flat (flatL ⟨Rn,Sl.app Rv⟩)))).mono (m := m) hm)
        have b4 : getO (setO h3 (n + 1) (Ob.row 2 [.agg [.int .i64 (Rn),slD 2 encV (Sl.app Rv)]])) (n + 1) = (Ob.row 2 [.agg [.int .i64 (Rn),slD 2 encV (Sl.app Rv)]]) := getO_set1 b1
        simp (disch:=first|assumption|omega|(simp (disch:=first|assumption|omega) only [sB,reduceAdd,reduceLT,reduceLeDiff,reduceEqDiff,reduceMul,↓reduceIte];done)|fail) only [sA,↓reduceIte,reduceLT,reduceEqDiff,reduceAdd,reduceLeDiff,g4,g9,b1,b9,b4,c3,F4]
      · have F4 := fun m hm => finish_flat (flatR badL) (H3.mono (m := m) hm)
        have hbad : (D.tup [.agg [.int .i64 (badL).1.n,slD 2 encV (Sl.app (badL).1.v)],.int .i64 (badL).2]) = .tup [.agg [.int .i64 0,.nils],.int .i64 13] := rfl
        rw [hbad] at F4 ⊢
        simp (disch:=first|assumption|omega|(simp (disch:=first|assumption|omega) only [sB,reduceAdd,reduceLT,reduceLeDiff,reduceEqDiff,reduceMul,↓reduceIte];done)|fail) only [sA,↓reduceIte,reduceLT,reduceEqDiff,reduceAdd,reduceLeDiff,g4,g5,b1,F4]
    · rw [if_neg (by rw [hall]; decide)] at hR
      subst hR
      have F4 := fun m hm => finish_flat (flatR badL) (H2.mono (m := m) hm)
      have hbad : (D.tup [.agg [.int .i64 (badL).1.n,slD 2 encV (Sl.app (badL).1.v)],.int .i64 (badL).2]) = .tup [.agg [.int .i64 0,.nils],.int .i64 13] := rfl
      rw [hbad] at F4 ⊢
      simp (disch:=first|assumption|omega|(simp (disch:=first|assumption|omega) only [sB,reduceAdd,reduceLT,reduceLeDiff,reduceEqDiff,reduceMul,↓reduceIte];done)|fail) only [sA,↓reduceIte,reduceLT,reduceEqDiff,reduceAdd,reduceLeDiff,g4,g5,b1,F4]
  · rw [if_neg hb]
    rw [nrm_wrong hb] at c0
    have hbad : (D.tup [.agg [.int .i64 (badL).1.n,slD 2 encV (Sl.app (badL).1.v)],.int .i64 (badL).2]) = .tup [.agg [.int .i64 0,.nils],.int .i64 13] := rfl
    rw [hbad]
    rw [f116_eq]; unfold c116; rw [callFn_eq (by rfl)]
    simp (disch:=first|assumption|omega|(simp (disch:=first|assumption|omega) only [sB,reduceAdd,reduceLT,reduceLeDiff,reduceEqDiff,reduceMul,↓reduceIte];done)|fail) only [sA,↓reduceIte,reduceLT,reduceEqDiff,reduceAdd,reduceLeDiff,c0,s3,slD_nil]
end Go.Proofs.Ytdijijblccmfbaa
