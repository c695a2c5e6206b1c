/- Merged: YS YSA YSB YSC YSD YSE. TeleSpine: what stands at the head of a row, and its arguments. Condition: what is handed in is of bulk at most 1048576. -/
import Derived.Test.YtdijijblccmfbaaYTXF
import Derived.Test.YtdijijblccmfbaaYTMC
import Derived.Test.YtdijijblccmfbaaYTJ
import Derived.Test.YtdijijblccmfbaaYTMD
import Derived.Test.YtdijijblccmfbaaYTXD
import Derived.Test.YtdijijblccmfbaaYTK
import Derived.Test.YtdijijblccmfbaaYTT4
import Derived.Test.YtdijijblccmfbaaYTR
import Derived.Test.YtdijijblccmfbaaA38

/- The program's Spine,as it lies in package raw,where its result is kept. No condition but sizes. -/
set_option linter.unusedSimpArgs false
set_option linter.unusedVariables false
namespace Go.Proofs.Ytdijijblccmfbaa
open Go

set_option maxHeartbeats 8000000 in
theorem pSpineK (t : Tm) (ht : formedT t.abs = true) (hs : sizeT t.abs ≤ 100000) (n : Nat) (h : Hps) (hg : Gd n h) : ∃ m G dA dB,callFn (LX (cFk kT Try.prog)) n h [(D.agg [.int .i64 (t).form,.int .i64 (t).n,.bool (t).hid,.str (t).name,slD 2 encL (t).levels,slD 6 encT (t).kids])] (cFk kT Try.prog 71) = .ok (.tup [encT (spn t).1,dA,dB]) m G ∧ Hp n h m G ∧ Bld 6 encT (n + 2) (spn t).2.1 G dA ∧ Bld 1 encB (n + 2) (spn t).2.2 G dB := by
  have hgn := hg n (Nat.le_refl _)
  have H0 : Hp n h (n + 2) ((n + 1,(Ob.row 6 [.agg [.int .i64 0,.int .i64 0,.bool false,.str [],.nils,.nils]])) :: (n,(Ob.row 6 [.agg [.int .i64 (t).form,.int .i64 (t).n,.bool (t).hid,.str (t).name,slD 2 encL (t).levels,slD 6 encT (t).kids]])) :: h) := ((Hp.start hg).box (r := n) (m := n + 1) (Nat.le_refl _) (by omega) (flatTA t)).box (r := n + 1) (m := n + 2) (k := 6) (d := (D.agg [.int .i64 0,.int .i64 0,.bool false,.str [],.nils,.nils])) (by omega) (by omega) rfl
  rw [f71_eq]; unfold c71; rw [callFn_eqK (by rfl)]
  simp (disch:=first|assumption|omega|(simp (disch:=first|assumption|omega) only [sB,Nat.reduceAdd,Nat.reduceLT,Nat.reduceLeDiff,Nat.reduceEqDiff,Nat.reduceMul,↓reduceIte];done)|fail) only [sA,↓reduceIte,Nat.reduceLT,Nat.reduceEqDiff,Nat.reduceAdd,Nat.reduceLeDiff]
  generalize hr : LX (cFk kT Try.prog) (.loop l71_0) _ _ _ = R
  obtain ⟨x,ez,nz,G,rfl,rfl,Hz,p1,hd,A,B,dA,dB,BA,BB,z0,z1,hsp,hAl,hBl,q1,q2,q5,q6⟩ := loop_at hr
    (fun j e n' G => Hp n h n' G ∧ n + 2 ≤ n' ∧ ∃ (cur : Tm) (A : List Tm) (B : List Bool) (dA dB : D),sizeT cur.abs = j ∧ formedT cur.abs = true ∧ Bld 6 encT (n + 2) A G dA ∧ Bld 1 encB (n + 2) B G dB ∧ getO G n = (Ob.row 6 [.agg [.int .i64 (cur).form,.int .i64 (cur).n,.bool (cur).hid,.str (cur).name,slD 2 encL (cur).levels,slD 6 encT (cur).kids]]) ∧ getO G (n + 1) = (Ob.row 6 [.agg [.int .i64 0,.int .i64 0,.bool false,.str [],.nils,.nils]]) ∧
      spn t = ((spn cur).1,(spn cur).2.1 ++ A.reverse,(spn cur).2.2 ++ B.reverse) ∧ A.length + j ≤ sizeT t.abs ∧ B.length + j ≤ sizeT t.abs ∧ get (po 1) e = .ptr n 0 0 ∧ get (po 2) e = .ptr (n + 1) 0 0 ∧ get (po 5) e = dA ∧ get (po 6) e = dB)
    (fun x e n' G => x = .exit 0 ∧ Hp n h n' G ∧ n + 2 ≤ n' ∧ ∃ (hd : Tm) (A : List Tm) (B : List Bool) (dA dB : D),Bld 6 encT (n + 2) A G dA ∧ Bld 1 encB (n + 2) B G dB ∧ getO G n = (Ob.row 6 [.agg [.int .i64 (hd).form,.int .i64 (hd).n,.bool (hd).hid,.str (hd).name,slD 2 encL (hd).levels,slD 6 encT (hd).kids]]) ∧ getO G (n + 1) = (Ob.row 6 [.agg [.int .i64 0,.int .i64 0,.bool false,.str [],.nils,.nils]]) ∧
      spn t = (hd,A.reverse,B.reverse) ∧ A.length ≤ 100000 ∧ B.length ≤ 100000 ∧ get (po 1) e = .ptr n 0 0 ∧ get (po 2) e = .ptr (n + 1) 0 0 ∧ get (po 5) e = dA ∧ get (po 6) e = dB)
    (by
      rintro j e n' G ⟨H,p1,cur,A,B,dA,dB,hj,hcf,BA,BB,z0,z1,hsp,hAl,hBl,q1,q2,q5,q6⟩
      unfold l71_0
      by_cases hf : cur.form = 5
      · obtain ⟨k0,k1,hk,hk0,hsz⟩ := kids_two hf hcf
        obtain ⟨D1,K1,A1⟩ := app_bldz (b := 88) BA H (by omega) p1 (fun m x => low_flat (flatT x)) [k1] (by simp; omega)
        have a1 := fun m hm => (A1 m hm).1
        simp only [List.map_cons,List.map_nil,encT_eq k1] at a1
        obtain ⟨_,BA1,H1,kp1,_⟩ := A1 (n' + 6597069766659) (by omega)
        have hoAB := offA BA BB
        have BB1 : Bld 1 encB (n + 2) B (K1 (n' + 6597069766659)) dB := BB.keep (fun r e => by
          have hlt : r < n' := by
            rcases BB with ⟨_,e2⟩ | ⟨p,_,_,e2,gB⟩
            · rw [e2] at e; cases e
            · rw [e2] at e; injection e with _ e _ _ _
              rw [← e]; exact getO_low (H.good n' (Nat.le_refl _)) (by rw [gB]; exact fun h => by cases h)
          exact (kp1 r hlt (hoAB.1 r e)).1)
        have z01 : getO (K1 (n' + 6597069766659)) n = (Ob.row 6 [.agg [.int .i64 (cur).form,.int .i64 (cur).n,.bool (cur).hid,.str (cur).name,slD 2 encL (cur).levels,slD 6 encT (cur).kids]]) := by rw [(kp1 n (by omega) (BA.off' (by omega))).1]; exact z0
        have z11 : getO (K1 (n' + 6597069766659)) (n + 1) = (Ob.row 6 [.agg [.int .i64 0,.int .i64 0,.bool false,.str [],.nils,.nils]]) := by rw [(kp1 (n + 1) (by omega) (BA.off' (by omega))).1]; exact z1
        obtain ⟨D2,K2,A2⟩ := app_bldz (b := 1) BB1 H1 (by omega) (by omega) (fun m x => low_flat rfl) [cur.hid] (by simp; omega)
        have a2 := fun m hm => (A2 m hm).1
        simp only [List.map_cons,List.map_nil,encB] at a2
        have eK : slD 6 encT cur.kids = slD 6 encT cur.kids := rfl
        have i0 : 0 < cur.kids.el.length := by rw [hk]; simp
        have i1 : 1 < cur.kids.el.length := by rw [hk]; simp
        have e0 : ∀ hh,encT (cur.kids.el[0]'hh) = (D.agg [.int .i64 (k0).form,.int .i64 (k0).n,.bool (k0).hid,.str (k0).name,slD 2 encL (k0).levels,slD 6 encT (k0).kids]) := fun hh => by simp only [hk]; exact encT_eq _
        have e1 : ∀ hh,encT (cur.kids.el[1]'hh) = (D.agg [.int .i64 (k1).form,.int .i64 (k1).n,.bool (k1).hid,.str (k1).name,slD 2 encL (k1).levels,slD 6 encT (k1).kids]) := fun hh => by simp only [hk]; exact encT_eq _
        have hbA := BA.okD
        have hbB := BB.okD
        have hko : ∀ m,n' ≤ m → keysFrom m G = [] := fun m hm => keys_low (H.good m hm)
        rw [hf] at z0 z01
        have hmA : ∀ q,(q < n + 2 ∨ n' ≤ q) → memN q (refO dA) = false := fun q hq => by
          rcases BA with ⟨_,rfl⟩ | ⟨r,_,h2,rfl,gA⟩
          · rfl
          · have := getO_low (H.good n' (Nat.le_refl _)) (show getO G r ≠ .none by rw [gA]; exact fun h => by cases h)
            show memN q [r] = false
            rw [memN_cons,decide_eq_false (by omega)]; rfl
        obtain ⟨_,BB2,H2,kp2,_⟩ := A2 (n' + 12094627905539) (by omega)
        have hoAB1 := offA BA1 BB1
        have BA2 : Bld 6 encT (n + 2) (A ++ [k1]) (K2 (n' + 12094627905539)) (D1 (n' + 6597069766659)) := BA1.keep (fun r e => by
          have hlt : r < n' + 6597069766660 := by
            rcases BA1 with ⟨_,e2⟩ | ⟨p,_,_,e2,gA⟩
            · rw [e2] at e; cases e
            · rw [e2] at e; injection e with _ e _ _ _
              rw [← e]; exact getO_low (H1.good _ (Nat.le_refl _)) (by rw [gA]; exact fun h => by cases h)
          exact (kp2 r hlt (hoAB1.2 r e)).1)
        have z02 : getO (K2 (n' + 12094627905539)) n = .row 6 [.agg [.int .i64 5,.int .i64 cur.n,.bool cur.hid,.str cur.name,slD 2 encL cur.levels,slD 6 encT cur.kids]] := by rw [(kp2 n (by omega) (BB1.off' (by omega))).1]; exact z01
        have z12 : getO (K2 (n' + 12094627905539)) (n + 1) = (Ob.row 6 [.agg [.int .i64 0,.int .i64 0,.bool false,.str [],.nils,.nils]]) := by rw [(kp2 (n + 1) (by omega) (BB1.off' (by omega))).1]; exact z11
        simp (disch:=first|assumption|omega|(simp (disch:=first|assumption|omega) only [sB,Nat.reduceAdd,Nat.reduceLT,Nat.reduceLeDiff,Nat.reduceEqDiff,Nat.reduceMul,↓reduceIte,i0,i1];done)|fail) only [sA,↓reduceIte,Nat.reduceLT,Nat.reduceEqDiff,Nat.reduceAdd,Nat.reduceLeDiff,q1,q2,q5,q6,z0,z01,z02,hf,e0,e1,a1,a2,hbA,hbB,hko,hmA,i0,i1]
        refine ⟨_,_,_,_,rfl,.inl ⟨rfl,sizeT k0.abs,by omega,(H2.set (r := n) (by omega) (fun k _ => lowO_one (low_flat (flatTA k0)))).mono (by omega),by omega,k0,A ++ [k1],B ++ [cur.hid],_,_,rfl,hk0,BA2.set z02 (by omega),BB2.set z02 (by omega),getO_set1 z02,getO_set2 z02 z12 (by omega),?_,by rw [List.length_append,List.length_singleton]; omega,by rw [List.length_append,List.length_singleton]; omega,by simp (disch:=first|assumption|omega|(simp (disch:=first|assumption|omega) only [sB,Nat.reduceAdd,Nat.reduceLT,Nat.reduceLeDiff,Nat.reduceEqDiff,Nat.reduceMul,↓reduceIte];done)|fail) only [sA,↓reduceIte,Nat.reduceLT,Nat.reduceEqDiff,Nat.reduceAdd,Nat.reduceLeDiff,q1],by simp (disch:=first|assumption|omega|(simp (disch:=first|assumption|omega) only [sB,Nat.reduceAdd,Nat.reduceLT,Nat.reduceLeDiff,Nat.reduceEqDiff,Nat.reduceMul,↓reduceIte];done)|fail) only [sA,↓reduceIte,Nat.reduceLT,Nat.reduceEqDiff,Nat.reduceAdd,Nat.reduceLeDiff,q2],by simp (disch:=first|assumption|omega|(simp (disch:=first|assumption|omega) only [sB,Nat.reduceAdd,Nat.reduceLT,Nat.reduceLeDiff,Nat.reduceEqDiff,Nat.reduceMul,↓reduceIte];done)|fail) only [sA,↓reduceIte,Nat.reduceLT,Nat.reduceEqDiff,Nat.reduceAdd,Nat.reduceLeDiff],by simp (disch:=first|assumption|omega|(simp (disch:=first|assumption|omega) only [sB,Nat.reduceAdd,Nat.reduceLT,Nat.reduceLeDiff,Nat.reduceEqDiff,Nat.reduceMul,↓reduceIte];done)|fail) only [sA,↓reduceIte,Nat.reduceLT,Nat.reduceEqDiff,Nat.reduceAdd,Nat.reduceLeDiff]⟩⟩
        rw [hsp,spn_app hf hk,List.reverse_append,List.reverse_append]
        simp
      · simp (disch:=first|assumption|omega|(simp (disch:=first|assumption|omega) only [sB,Nat.reduceAdd,Nat.reduceLT,Nat.reduceLeDiff,Nat.reduceEqDiff,Nat.reduceMul,↓reduceIte];done)|fail) only [sA,↓reduceIte,Nat.reduceLT,Nat.reduceEqDiff,Nat.reduceAdd,Nat.reduceLeDiff,q1,z0,hf]
        rw [spn_head hf] at hsp
        exact ⟨_,_,_,_,rfl,.inr ⟨by simp,rfl,H.mono (by omega),by omega,cur,A,B,dA,dB,BA,BB,z0,z1,by simpa using hsp,by omega,by omega,by simp (disch:=first|assumption|omega|(simp (disch:=first|assumption|omega) only [sB,Nat.reduceAdd,Nat.reduceLT,Nat.reduceLeDiff,Nat.reduceEqDiff,Nat.reduceMul,↓reduceIte];done)|fail) only [sA,↓reduceIte,Nat.reduceLT,Nat.reduceEqDiff,Nat.reduceAdd,Nat.reduceLeDiff,q1],by simp (disch:=first|assumption|omega|(simp (disch:=first|assumption|omega) only [sB,Nat.reduceAdd,Nat.reduceLT,Nat.reduceLeDiff,Nat.reduceEqDiff,Nat.reduceMul,↓reduceIte];done)|fail) only [sA,↓reduceIte,Nat.reduceLT,Nat.reduceEqDiff,Nat.reduceAdd,Nat.reduceLeDiff,q2],by simp (disch:=first|assumption|omega|(simp (disch:=first|assumption|omega) only [sB,Nat.reduceAdd,Nat.reduceLT,Nat.reduceLeDiff,Nat.reduceEqDiff,Nat.reduceMul,↓reduceIte];done)|fail) only [sA,↓reduceIte,Nat.reduceLT,Nat.reduceEqDiff,Nat.reduceAdd,Nat.reduceLeDiff,q5],by simp (disch:=first|assumption|omega|(simp (disch:=first|assumption|omega) only [sB,Nat.reduceAdd,Nat.reduceLT,Nat.reduceLeDiff,Nat.reduceEqDiff,Nat.reduceMul,↓reduceIte];done)|fail) only [sA,↓reduceIte,Nat.reduceLT,Nat.reduceEqDiff,Nat.reduceAdd,Nat.reduceLeDiff,q6]⟩⟩)
    (sizeT t.abs) ⟨H0.mono (by omega),by omega,t,[],[],.nils,.nils,rfl,ht,.inl ⟨rfl,rfl⟩,.inl ⟨rfl,rfl⟩,by rw [getO_tl (by omega),getO_hd],getO_hd,by simp,by simp,by simp,by simp (disch:=first|assumption|omega|(simp (disch:=first|assumption|omega) only [sB,Nat.reduceAdd,Nat.reduceLT,Nat.reduceLeDiff,Nat.reduceEqDiff,Nat.reduceMul,↓reduceIte];done)|fail) only [sA,↓reduceIte,Nat.reduceLT,Nat.reduceEqDiff,Nat.reduceAdd,Nat.reduceLeDiff],by simp (disch:=first|assumption|omega|(simp (disch:=first|assumption|omega) only [sB,Nat.reduceAdd,Nat.reduceLT,Nat.reduceLeDiff,Nat.reduceEqDiff,Nat.reduceMul,↓reduceIte];done)|fail) only [sA,↓reduceIte,Nat.reduceLT,Nat.reduceEqDiff,Nat.reduceAdd,Nat.reduceLeDiff],by simp (disch:=first|assumption|omega|(simp (disch:=first|assumption|omega) only [sB,Nat.reduceAdd,Nat.reduceLT,Nat.reduceLeDiff,Nat.reduceEqDiff,Nat.reduceMul,↓reduceIte];done)|fail) only [sA,↓reduceIte,Nat.reduceLT,Nat.reduceEqDiff,Nat.reduceAdd,Nat.reduceLeDiff],by simp (disch:=first|assumption|omega|(simp (disch:=first|assumption|omega) only [sB,Nat.reduceAdd,Nat.reduceLT,Nat.reduceLeDiff,Nat.reduceEqDiff,Nat.reduceMul,↓reduceIte];done)|fail) only [sA,↓reduceIte,Nat.reduceLT,Nat.reduceEqDiff,Nat.reduceAdd,Nat.reduceLeDiff]⟩
  obtain ⟨G1,r1,BA1,H1,kp1⟩ := rev_bldA BA Hz (by omega) (by omega)
  have hoAB := offA BA BB
  have BB1 : Bld 1 encB (n + 2) B G1 dB := BB.keep (fun r e => kp1 r (hoAB.1 r e))
  obtain ⟨G2,r2,BB2,H2,kp2⟩ := rev_bldB BB1 H1 (by omega) (by omega)
  have hoAB1 := offA BA1 BB1
  have BA2 : Bld 6 encT (n + 2) A.reverse G2 dA := BA1.keep (fun r e => kp2 r (hoAB1.2 r e))
  have y0 : getO G2 n = (Ob.row 6 [.agg [.int .i64 (hd).form,.int .i64 (hd).n,.bool (hd).hid,.str (hd).name,slD 2 encL (hd).levels,slD 6 encT (hd).kids]]) := by rw [kp2 n (BB1.off' (by omega)),kp1 n (BA.off' (by omega))]; exact z0
  have y1 : getO G2 (n + 1) = (Ob.row 6 [.agg [.int .i64 0,.int .i64 0,.bool false,.str [],.nils,.nils]]) := by rw [kp2 (n + 1) (BB1.off' (by omega)),kp1 (n + 1) (BA.off' (by omega))]; exact z1
  have w : ∀ X,getO (setO G2 (n + 1) X) (n + 1) = X := fun X => getO_setO_same (by rw [y1]; simp)
  have hA2 := BA2.okD
  have hB2 := BB2.okD
  rw [hsp]
  have HH : Hp n h (nz + 12) (setO G2 (n + 1) (Ob.row 6 [.agg [.int .i64 (hd).form,.int .i64 (hd).n,.bool (hd).hid,.str (hd).name,slD 2 encL (hd).levels,slD 6 encT (hd).kids]])) := (H2.set (r := n + 1) (by omega) (fun k _ => lowO_one (low_flat (flatTA hd)))).mono (by omega)
  rw [encT_eq]
  simp (disch:=first|assumption|omega|(simp (disch:=first|assumption|omega) only [sB,Nat.reduceAdd,Nat.reduceLT,Nat.reduceLeDiff,Nat.reduceEqDiff,Nat.reduceMul,↓reduceIte];done)|fail) only [sA,↓reduceIte,Nat.reduceLT,Nat.reduceEqDiff,Nat.reduceAdd,Nat.reduceLeDiff,q1,q2,q5,q6,r1,r2,y0,y1,w,hA2,hB2,finK_ret,finKL_ok]
  exact ⟨_,_,_,_,rfl,HH,BA2.set y1 (by omega),BB2.set y1 (by omega)⟩
end Go.Proofs.Ytdijijblccmfbaa

/- The program's Spine of terms. No condition but sizes. -/
namespace Go.Proofs.Ytdijijblccmfbaa
open Go

def copyM (t : Tm) : Tm := (runM gC t 0 1099511627776).1
theorem spn_slim : ∀ t : Tm,slimT t.abs = true → slimT (spn t).1.abs = true ∧ (∀ x,x ∈ (spn t).2.1 → slimT x.abs = true ∧ sizeT x.abs ≤ sizeT t.abs ∧ highT x.abs ≤ highT t.abs) ∧ sizeT (spn t).1.abs ≤ sizeT t.abs ∧ highT (spn t).1.abs ≤ highT t.abs ∧ (spn t).2.1.length = (spn t).2.2.length ∧ (spn t).2.1.length < sizeT t.abs := by
  refine Tm.ind ?_
  intro t ih hs
  have hp := sizeT_pos t.abs
  by_cases hf : t.form = 5 ∧ ∃ k0 k1 ks,t.kids.el = k0 :: k1 :: ks
  · obtain ⟨h5,k0,k1,ks,hk⟩ := hf
    have m0 : k0 ∈ t.kids.el := by rw [hk]; simp
    have m1 : k1 ∈ t.kids.el := by rw [hk]; simp
    have hsk := (slim_tm hs).2.2.2
    have e : spn t = ((spn k0).1,(spn k0).2.1 ++ [k1],(spn k0).2.2 ++ [t.hid]) := by
      cases t with
      | mk f n hd nm ls nl fl kk sp =>
        have hk' : kk = k0 :: k1 :: ks := hk
        have hf' : f = 5 := h5
        subst hk' hf'
        rw [spn,if_pos rfl]; rfl
    obtain ⟨a1,a2,a3,a4,a5,a6⟩ := ih k0 m0 (hsk k0 m0)
    have s0 := size_kid m0
    have s1 := size_kid m1
    have t0 := high_kid m0
    have t1 := high_kid m1
    have ss : sizeT k0.abs + sizeT k1.abs < sizeT t.abs := by
      have := size_abs t
      rw [hk,List.map_cons,List.map_cons,sizeTs_cons,sizeTs_cons] at this
      omega
    have := sizeT_pos k1.abs
    rw [e]
    refine ⟨a1,fun x hx => ?_,by show sizeT (spn k0).1.abs ≤ _; omega,by show highT (spn k0).1.abs ≤ _; omega,by simp [a5],by show ((spn k0).2.1 ++ [k1]).length < _; rw [List.length_append,List.length_singleton]; omega⟩
    rcases List.mem_append.1 hx with hx | hx
    · obtain ⟨b1,b2,b3⟩ := a2 x hx
      exact ⟨b1,by omega,by omega⟩
    · rw [List.mem_singleton.1 hx]
      exact ⟨hsk k1 m1,by omega,by omega⟩
  · have e : spn t = (t,[],[]) := by
      cases t with
      | mk f n hd nm ls nl fl kk sp =>
        match kk with
        | [] => simp [spn]
        | [k] => simp [spn]
        | k0 :: k1 :: ks =>
          rw [spn,if_neg (show ¬ f = 5 from fun h5 => hf ⟨h5,k0,k1,ks,rfl⟩)]
    rw [e]
    exact ⟨hs,fun x hx => (by cases hx),Nat.le_refl _,Nat.le_refl _,rfl,hp⟩
theorem take_setF {g : Tm → Tm} {l : List Tm} {i : Nat} (hi : i < l.length) : ((l.take i).map g ++ l.drop i).set i (g l[i]) = (l.take (i + 1)).map g ++ l.drop (i + 1) := by
  rw [List.set_append_right _ _ (by rw [List.length_map,List.length_take]; omega),List.length_map,List.length_take,Nat.min_eq_left (by omega),Nat.sub_self,List.drop_eq_getElem_cons hi,List.set_cons_zero,List.take_succ_eq_append_getElem hi,List.map_append,List.append_assoc]
  rfl
theorem Hp.chain {n0 n1 m : Nat} {h0 h1 G : Hps} (A : Hp n0 h0 n1 h1) (B : Hp n1 h1 m G) : Hp n0 h0 m G := by
  have h01 := A.le
  have h12 := B.le
  have hd : ∀ X : Hps,dropFrom n0 (dropFrom n1 X) = dropFrom n0 X := fun X => by
    induction X with
    | nil => rfl
    | cons x t ih =>
      obtain ⟨q,o⟩ := x
      by_cases e : q < n1
      · rw [drop_old e]
        by_cases e2 : q < n0
        · rw [drop_old e2,drop_old e2,ih]
        · rw [drop_new (by omega),drop_new (by omega),ih]
      · rw [drop_new (by omega),drop_new (by omega),ih]
  refine ⟨by omega,B.good,by rw [← hd,B.drop,A.drop],?_⟩
  rw [leak_iff]
  intro p hp hq
  have : p ∈ h1 := by rw [← B.drop]; exact mem_drop.2 ⟨hp,by omega⟩
  exact leak_iff.1 A.leak p this hq
set_option maxHeartbeats 8000000 in
set_option maxRecDepth 8000 in
theorem tSpine (t : Tm) (hs : saneT t.abs = true) (hc : checkT t.abs = 0) (hsl : slimT t.abs = true) (hfm : formedT t.abs = true) (hsz : sizeT t.abs ≤ 20000) (hh : highT t.abs ≤ 500) (n : Nat) (h : Hps) (hg : Gd n h) :
    callFn (LX (cFk kT Try.prog)) n h [(D.agg [.int .i64 (t).form,.int .i64 (t).n,.bool (t).hid,.str (t).name,slD 2 encL (t).levels,slD 6 encT (t).kids])] (cFk kT Try.prog 28) = .ok (.tup [encT (copyM (spn t).1),slD 6 encT (Sl.app ((spn t).2.1.map copyM)),slD 1 encB (Sl.app (spn t).2.2)]) n h := by
  have hgn := hg n (Nat.le_refl _)
  have hG : ∀ m,n ≤ m → Gd m h := fun m hm => Gd.mono hg hm
  have c1 : ∀ m h,Gd m h → callFn (LX (cFk kT Try.prog)) m h [(D.agg [.int .i64 (t).form,.int .i64 (t).n,.bool (t).hid,.str (t).name,slD 2 encL (t).levels,slD 6 encT (t).kids])] (cFk kT Try.prog 22) = .ok (.int .i64 (checkT t.abs)) m h := pCheck t hs
  have H0 : Hp n h (n + 2) ((n + 1,(Ob.row 6 [.agg [.int .i64 0,.int .i64 0,.bool false,.str [],.nils,.nils]])) :: (n,(Ob.row 6 [.agg [.int .i64 (t).form,.int .i64 (t).n,.bool (t).hid,.str (t).name,slD 2 encL (t).levels,slD 6 encT (t).kids]])) :: h) := ((Hp.start hg).box (r := n) (m := n + 1) (Nat.le_refl _) (by omega) (flatTA t)).box (r := n + 1) (m := n + 2) (k := 6) (d := (D.agg [.int .i64 0,.int .i64 0,.bool false,.str [],.nils,.nils])) (by omega) (by omega) rfl
  obtain ⟨p1,p2,p3,p4,p5,p6⟩ := spn_slim t hsl
  obtain ⟨m,G,dA,dB,e2,HG,BA,BB⟩ := pSpineK t hfm (by omega) (n + 10) _ (fun k hk => H0.good k (by omega))
  rw [encT_eq] at e2
  have HG2 := (H0.mono (show n + 2 ≤ n + 10 by omega)).chain HG
  have hnm := HG.le
  have z0 : getO G n = (Ob.row 6 [.agg [.int .i64 (t).form,.int .i64 (t).n,.bool (t).hid,.str (t).name,slD 2 encL (t).levels,slD 6 encT (t).kids]]) := by rw [HG.get (by omega),getO_tl (by omega),getO_hd]
  have z1 : getO G (n + 1) = (Ob.row 6 [.agg [.int .i64 0,.int .i64 0,.bool false,.str [],.nils,.nils]]) := by rw [HG.get (by omega),getO_hd]
  generalize spn t = S at p1 p2 p3 p4 p5 p6 e2 BA BB ⊢
  obtain ⟨hd,A,B⟩ := S
  replace BA : Bld 6 encT (n + 10 + 2) A G dA := BA
  replace BB : Bld 1 encB (n + 10 + 2) B G dB := BB
  replace p2 : ∀ x,x ∈ A → slimT x.abs = true ∧ sizeT x.abs ≤ sizeT t.abs ∧ highT x.abs ≤ highT t.abs := p2
  replace p1 : slimT hd.abs = true := p1
  replace p3 : sizeT hd.abs ≤ sizeT t.abs := p3
  replace p4 : highT hd.abs ≤ highT t.abs := p4
  replace p6 : A.length < sizeT t.abs := p6
  have hA := BA.okD
  have hB := BB.okD
  have hqm : ∀ q,dA = .ms 6 q 0 A.length false → q < m := fun q e => by
    rcases BA with ⟨_,e2⟩ | ⟨p,_,_,e2,gA⟩
    · rw [e2] at e; cases e
    · rw [e2] at e; injection e with _ e _ _ _
      rw [← e]; exact getO_low (HG.good m (Nat.le_refl _)) (by rw [gA]; exact fun h => by cases h)
  have hlen : ∀ m h,lenD m h .slice dA = .ok (.int .i64 (A.length : Nat)) m h := fun m h => by
    rcases BA with ⟨e0,e⟩ | ⟨q,_,hq,e,hg⟩
    · rw [e,e0]; rfl
    · rw [e]; rfl
  have H5 : Hp n h (m + 6) ((m + 5,(Ob.row 6 [.agg [.int .i64 (hd).form,.int .i64 (hd).n,.bool (hd).hid,.str (hd).name,slD 2 encL (hd).levels,slD 6 encT (hd).kids]])) :: G) := HG2.box (r := m + 5) (m := m + 6) (by omega) (by omega) (flatTA hd)
  have hGm := HG.good m (Nat.le_refl _)
  have BA5 : Bld 6 encT (n + 10 + 2) A ((m + 5,(Ob.row 6 [.agg [.int .i64 (hd).form,.int .i64 (hd).n,.bool (hd).hid,.str (hd).name,slD 2 encL (hd).levels,slD 6 encT (hd).kids]])) :: G) dA := BA.cons hGm (by omega)
  have BB5 : Bld 1 encB (n + 10 + 2) B ((m + 5,(Ob.row 6 [.agg [.int .i64 (hd).form,.int .i64 (hd).n,.bool (hd).hid,.str (hd).name,slD 2 encL (hd).levels,slD 6 encT (hd).kids]])) :: G) dB := BB.cons hGm (by omega)
  rw [f28_eq]; unfold c28; rw [callFn_eq (by rfl)]
  simp (disch:=first|assumption|omega|(simp (disch:=first|assumption|omega) only [sB,Nat.reduceAdd,Nat.reduceLT,Nat.reduceLeDiff,Nat.reduceEqDiff,Nat.reduceMul,↓reduceIte,hG,gd_tm,gd_zt];done)|fail) only [sA,↓reduceIte,Nat.reduceLT,Nat.reduceEqDiff,Nat.reduceAdd,Nat.reduceLeDiff,c1,hc,e2,hA,hB,hlen,hG,gd_tm,gd_zt]
  generalize hr : LX (cFk kT Try.prog) (.loop l28_0) _ _ _ = R
  obtain ⟨x,ez,nz,K,rfl,rfl,HK,q0,BAz,BBz,y5,y1,g2,g5,g6,g7⟩ := loop_up hr A.length
    (fun i e n' K => Hp n h n' K ∧ m + 6 ≤ n' ∧ Bld 6 encT (n + 10 + 2) ((A.take i).map copyM ++ A.drop i) K dA ∧ Bld 1 encB (n + 10 + 2) B K dB ∧ getO K (m + 5) = (Ob.row 6 [.agg [.int .i64 (hd).form,.int .i64 (hd).n,.bool (hd).hid,.str (hd).name,slD 2 encL (hd).levels,slD 6 encT (hd).kids]]) ∧ getO K (n + 1) = (Ob.row 6 [.agg [.int .i64 0,.int .i64 0,.bool false,.str [],.nils,.nils]]) ∧ get (po 2) e = .ptr (n + 1) 0 0 ∧ get (po 5) e = .ptr (m + 5) 0 0 ∧ get (po 6) e = dA ∧ get (po 7) e = dB ∧ get (po 20) e = dA ∧ get (po 21) e = .int .i64 (A.length : Nat) ∧ get (po 22) e = .int .i64 (i : Nat))
    (fun x e n' K => x = .exit 0 ∧ Hp n h n' K ∧ m + 6 ≤ n' ∧ Bld 6 encT (n + 10 + 2) (A.map copyM) K dA ∧ Bld 1 encB (n + 10 + 2) B K dB ∧ getO K (m + 5) = (Ob.row 6 [.agg [.int .i64 (hd).form,.int .i64 (hd).n,.bool (hd).hid,.str (hd).name,slD 2 encL (hd).levels,slD 6 encT (hd).kids]]) ∧ getO K (n + 1) = (Ob.row 6 [.agg [.int .i64 0,.int .i64 0,.bool false,.str [],.nils,.nils]]) ∧ get (po 2) e = .ptr (n + 1) 0 0 ∧ get (po 5) e = .ptr (m + 5) 0 0 ∧ get (po 6) e = dA ∧ get (po 7) e = dB)
    (by
      rintro e n' K ⟨H,q0,BA,BB,y5,y1,g2,g5,g6,g7,g20,g21,g22⟩
      rw [List.take_length,List.drop_length,List.append_nil] at BA
      unfold l28_0
      simp (disch:=first|assumption|omega|(simp (disch:=first|assumption|omega) only [sB,Nat.reduceAdd,Nat.reduceLT,Nat.reduceLeDiff,Nat.reduceEqDiff,Nat.reduceMul,↓reduceIte];done)|fail) only [sA,↓reduceIte,Nat.reduceLT,Nat.reduceEqDiff,Nat.reduceAdd,Nat.reduceLeDiff,g21,g22]
      exact ⟨_,_,_,_,rfl,by simp,rfl,H.mono (by omega),by omega,BA,BB,y5,y1,by simp (disch:=first|assumption|omega|(simp (disch:=first|assumption|omega) only [sB,Nat.reduceAdd,Nat.reduceLT,Nat.reduceLeDiff,Nat.reduceEqDiff,Nat.reduceMul,↓reduceIte];done)|fail) only [sA,↓reduceIte,Nat.reduceLT,Nat.reduceEqDiff,Nat.reduceAdd,Nat.reduceLeDiff,g2],by simp (disch:=first|assumption|omega|(simp (disch:=first|assumption|omega) only [sB,Nat.reduceAdd,Nat.reduceLT,Nat.reduceLeDiff,Nat.reduceEqDiff,Nat.reduceMul,↓reduceIte];done)|fail) only [sA,↓reduceIte,Nat.reduceLT,Nat.reduceEqDiff,Nat.reduceAdd,Nat.reduceLeDiff,g5],by simp (disch:=first|assumption|omega|(simp (disch:=first|assumption|omega) only [sB,Nat.reduceAdd,Nat.reduceLT,Nat.reduceLeDiff,Nat.reduceEqDiff,Nat.reduceMul,↓reduceIte];done)|fail) only [sA,↓reduceIte,Nat.reduceLT,Nat.reduceEqDiff,Nat.reduceAdd,Nat.reduceLeDiff,g6],by simp (disch:=first|assumption|omega|(simp (disch:=first|assumption|omega) only [sB,Nat.reduceAdd,Nat.reduceLT,Nat.reduceLeDiff,Nat.reduceEqDiff,Nat.reduceMul,↓reduceIte];done)|fail) only [sA,↓reduceIte,Nat.reduceLT,Nat.reduceEqDiff,Nat.reduceAdd,Nat.reduceLeDiff,g7]⟩)
    (by
      rintro i e n' K hi ⟨H,q0,BA,BB,y5,y1,g2,g5,g6,g7,g20,g21,g22⟩
      obtain ⟨L,hLe⟩ : ∃ L,(A.take i).map copyM ++ A.drop i = L := ⟨_,rfl⟩
      rw [hLe] at BA
      have hLl : L.length = A.length := by rw [← hLe,List.length_append,List.length_map,List.length_take,List.length_drop]; omega
      have hset : L.set i (copyM A[i]) = (A.take (i + 1)).map copyM ++ A.drop (i + 1) := by rw [← hLe]; exact take_setF hi
      have hil : i < L.length := by omega
      have hLi : L[i] = A[i] := by
        subst hLe
        rw [List.getElem_append_right (by rw [List.length_map,List.length_take]; omega)]
        simp only [List.length_map,List.length_take,List.getElem_drop]
        congr 1
        omega
      have hAB := offA BA BB
      obtain ⟨q,hq,ed,gq⟩ : ∃ q,n + 12 ≤ q ∧ dA = .ms 6 q 0 A.length false ∧ getO K q = .row 6 (L.map encT) := by
        rcases BA with ⟨e0,_⟩ | ⟨q,_,hq,e,hg⟩
        · rw [e0,List.length_nil] at hLl; omega
        · exact ⟨q,by omega,by rw [e,hLl],hg⟩
      have qlt : q < n' := getO_low (H.good n' (Nat.le_refl _)) (by rw [gq]; simp)
      have q5 := hqm q ed
      obtain ⟨s1,s2,s3⟩ := p2 A[i] (List.getElem_mem hi)
      have cC : ∀ m h,Gd m h → callFn (LX (cFk kT Try.prog)) m h [(D.agg [.int .i64 (A[i]).form,.int .i64 (A[i]).n,.bool (A[i]).hid,.str (A[i]).name,slD 2 encL (A[i]).levels,slD 6 encT (A[i]).kids])] (cFk kT Try.prog 59) = .ok (encT (copyM A[i])) m h := fun m h hg => pCopy m h hg A[i] s1 (by omega) (by omega)
      rw [encT_eq (copyM A[i])] at cC
      have e1 : encT L[i] = (D.agg [.int .i64 (A[i]).form,.int .i64 (A[i]).n,.bool (A[i]).hid,.str (A[i]).name,slD 2 encL (A[i]).levels,slD 6 encT (A[i]).kids]) := by rw [hLi,encT_eq]
      have eg : (L.map encT).getD i .junk = (D.agg [.int .i64 (A[i]).form,.int .i64 (A[i]).n,.bool (A[i]).hid,.str (A[i]).name,slD 2 encL (A[i]).levels,slD 6 encT (A[i]).kids]) := by rw [List.getD_eq_getElem?_getD,List.getElem?_map,List.getElem?_eq_getElem hil]; exact e1
      have gG : ∀ k,n' ≤ k → Gd k K := fun k hk j hj => H.good j (by omega)
      have gi : i < A.length := hi
      rw [ed] at g6 g20
      unfold l28_0
      simp (disch:=first|assumption|omega|(simp (disch:=first|assumption|omega) only [sB,Nat.reduceAdd,Nat.reduceLT,Nat.reduceLeDiff,Nat.reduceEqDiff,Nat.reduceMul,↓reduceIte,gi,hil,gG,gd_tm];done)|fail) only [sA,↓reduceIte,Nat.reduceLT,Nat.reduceEqDiff,Nat.reduceAdd,Nat.reduceLeDiff,g6,g20,g21,g22,gq,iaddr_ms,eg,store_tm,cC,gi,hil,gG,gd_tm]
      refine ⟨_,_,_,_,rfl,.inl ⟨rfl,((H.set (r := q) (by omega) (fun k hk => lowO_map (fun x => low_flat (flatT x)))).box (r := n' + 4) (m := n' + 5) (by omega) (by omega) (flatTA A[i])).mono (by omega),by omega,?_,?_,by rw [getO_tl (by omega)]; exact getO_set2 gq y5 (by omega),by rw [getO_tl (by omega)]; exact getO_set2 gq y1 (by omega),by simp (disch:=first|assumption|omega|(simp (disch:=first|assumption|omega) only [sB,Nat.reduceAdd,Nat.reduceLT,Nat.reduceLeDiff,Nat.reduceEqDiff,Nat.reduceMul,↓reduceIte];done)|fail) only [sA,↓reduceIte,Nat.reduceLT,Nat.reduceEqDiff,Nat.reduceAdd,Nat.reduceLeDiff,g2],by simp (disch:=first|assumption|omega|(simp (disch:=first|assumption|omega) only [sB,Nat.reduceAdd,Nat.reduceLT,Nat.reduceLeDiff,Nat.reduceEqDiff,Nat.reduceMul,↓reduceIte];done)|fail) only [sA,↓reduceIte,Nat.reduceLT,Nat.reduceEqDiff,Nat.reduceAdd,Nat.reduceLeDiff,g5],by simp (disch:=first|assumption|omega|(simp (disch:=first|assumption|omega) only [sB,Nat.reduceAdd,Nat.reduceLT,Nat.reduceLeDiff,Nat.reduceEqDiff,Nat.reduceMul,↓reduceIte];done)|fail) only [sA,↓reduceIte,Nat.reduceLT,Nat.reduceEqDiff,Nat.reduceAdd,Nat.reduceLeDiff,g6,ed],by simp (disch:=first|assumption|omega|(simp (disch:=first|assumption|omega) only [sB,Nat.reduceAdd,Nat.reduceLT,Nat.reduceLeDiff,Nat.reduceEqDiff,Nat.reduceMul,↓reduceIte];done)|fail) only [sA,↓reduceIte,Nat.reduceLT,Nat.reduceEqDiff,Nat.reduceAdd,Nat.reduceLeDiff,g7],by simp (disch:=first|assumption|omega|(simp (disch:=first|assumption|omega) only [sB,Nat.reduceAdd,Nat.reduceLT,Nat.reduceLeDiff,Nat.reduceEqDiff,Nat.reduceMul,↓reduceIte];done)|fail) only [sA,↓reduceIte,Nat.reduceLT,Nat.reduceEqDiff,Nat.reduceAdd,Nat.reduceLeDiff,g20,ed],by simp (disch:=first|assumption|omega|(simp (disch:=first|assumption|omega) only [sB,Nat.reduceAdd,Nat.reduceLT,Nat.reduceLeDiff,Nat.reduceEqDiff,Nat.reduceMul,↓reduceIte];done)|fail) only [sA,↓reduceIte,Nat.reduceLT,Nat.reduceEqDiff,Nat.reduceAdd,Nat.reduceLeDiff,g21],by simp (disch:=first|assumption|omega|(simp (disch:=first|assumption|omega) only [sB,Nat.reduceAdd,Nat.reduceLT,Nat.reduceLeDiff,Nat.reduceEqDiff,Nat.reduceMul,↓reduceIte];done)|fail) only [sA,↓reduceIte,Nat.reduceLT,Nat.reduceEqDiff,Nat.reduceAdd,Nat.reduceLeDiff]⟩⟩
      · rw [← hset,ed]
        refine .inr ⟨q,?_,hq,?_,by rw [getO_tl (by omega)]; exact getO_set1 gq⟩
        · intro e; have := congrArg List.length e; rw [List.length_set,List.length_nil] at this; omega
        · rw [List.length_set,hLl]
      · refine BB.keep (fun r e => ?_)
        have hlt : r < n' := by
          rcases BB with ⟨_,e2⟩ | ⟨p,_,_,e2,gB⟩
          · rw [e2] at e; cases e
          · rw [e2] at e; injection e with _ e _ _ _
            rw [← e]; exact getO_low (H.good n' (Nat.le_refl _)) (by rw [gB]; exact fun h => by cases h)
        have hne : r ≠ q := fun e3 => hAB.1 r e 6 0 A.length false (by rw [ed,e3])
        rw [getO_tl (by omega),getO_setO _ _ _ _ (by rw [gq]; simp),if_neg hne])
    ⟨H5.mono (by omega),by omega,by rw [List.take_zero,List.map_nil,List.nil_append,List.drop_zero]; exact BA5,BB5,getO_hd,by rw [getO_tl (by omega)]; exact z1,by simp (disch:=first|assumption|omega|(simp (disch:=first|assumption|omega) only [sB,Nat.reduceAdd,Nat.reduceLT,Nat.reduceLeDiff,Nat.reduceEqDiff,Nat.reduceMul,↓reduceIte];done)|fail) only [sA,↓reduceIte,Nat.reduceLT,Nat.reduceEqDiff,Nat.reduceAdd,Nat.reduceLeDiff],by simp (disch:=first|assumption|omega|(simp (disch:=first|assumption|omega) only [sB,Nat.reduceAdd,Nat.reduceLT,Nat.reduceLeDiff,Nat.reduceEqDiff,Nat.reduceMul,↓reduceIte];done)|fail) only [sA,↓reduceIte,Nat.reduceLT,Nat.reduceEqDiff,Nat.reduceAdd,Nat.reduceLeDiff],by simp (disch:=first|assumption|omega|(simp (disch:=first|assumption|omega) only [sB,Nat.reduceAdd,Nat.reduceLT,Nat.reduceLeDiff,Nat.reduceEqDiff,Nat.reduceMul,↓reduceIte];done)|fail) only [sA,↓reduceIte,Nat.reduceLT,Nat.reduceEqDiff,Nat.reduceAdd,Nat.reduceLeDiff],by simp (disch:=first|assumption|omega|(simp (disch:=first|assumption|omega) only [sB,Nat.reduceAdd,Nat.reduceLT,Nat.reduceLeDiff,Nat.reduceEqDiff,Nat.reduceMul,↓reduceIte];done)|fail) only [sA,↓reduceIte,Nat.reduceLT,Nat.reduceEqDiff,Nat.reduceAdd,Nat.reduceLeDiff],by simp (disch:=first|assumption|omega|(simp (disch:=first|assumption|omega) only [sB,Nat.reduceAdd,Nat.reduceLT,Nat.reduceLeDiff,Nat.reduceEqDiff,Nat.reduceMul,↓reduceIte];done)|fail) only [sA,↓reduceIte,Nat.reduceLT,Nat.reduceEqDiff,Nat.reduceAdd,Nat.reduceLeDiff],by simp (disch:=first|assumption|omega|(simp (disch:=first|assumption|omega) only [sB,Nat.reduceAdd,Nat.reduceLT,Nat.reduceLeDiff,Nat.reduceEqDiff,Nat.reduceMul,↓reduceIte];done)|fail) only [sA,↓reduceIte,Nat.reduceLT,Nat.reduceEqDiff,Nat.reduceAdd,Nat.reduceLeDiff],by simp (disch:=first|assumption|omega|(simp (disch:=first|assumption|omega) only [sB,Nat.reduceAdd,Nat.reduceLT,Nat.reduceLeDiff,Nat.reduceEqDiff,Nat.reduceMul,↓reduceIte];done)|fail) only [sA,↓reduceIte,Nat.reduceLT,Nat.reduceEqDiff,Nat.reduceAdd,Nat.reduceLeDiff]⟩
  have cC : ∀ m h,Gd m h → callFn (LX (cFk kT Try.prog)) m h [(D.agg [.int .i64 (hd).form,.int .i64 (hd).n,.bool (hd).hid,.str (hd).name,slD 2 encL (hd).levels,slD 6 encT (hd).kids])] (cFk kT Try.prog 59) = .ok (encT (copyM hd)) m h := fun m h hg => pCopy m h hg hd p1 (by omega) (by omega)
  rw [encT_eq (copyM hd)] at cC ⊢
  have gG : ∀ k,nz ≤ k → Gd k K := fun k hk j hj => HK.good j (by omega)
  have w : ∀ X,getO (setO K (n + 1) X) (n + 1) = X := fun X => getO_setO_same (by rw [y1]; simp)
  have F : ∀ m,nz ≤ m → finishD n m (setO K (n + 1) (Ob.row 6 [.agg [.int .i64 (copyM hd).form,.int .i64 (copyM hd).n,.bool (copyM hd).hid,.str (copyM hd).name,slD 2 encL (copyM hd).levels,slD 6 encT (copyM hd).kids]])) (.tup [(D.agg [.int .i64 (copyM hd).form,.int .i64 (copyM hd).n,.bool (copyM hd).hid,.str (copyM hd).name,slD 2 encL (copyM hd).levels,slD 6 encT (copyM hd).kids]),dA,dB]) = .ok (.tup [(D.agg [.int .i64 (copyM hd).form,.int .i64 (copyM hd).n,.bool (copyM hd).hid,.str (copyM hd).name,slD 2 encL (copyM hd).levels,slD 6 encT (copyM hd).kids]),slD 6 encT (Sl.app (A.map copyM)),slD 1 encB (Sl.app B)]) n h := fun m hm => by
    have Hm := (HK.set (r := n + 1) (x := (Ob.row 6 [.agg [.int .i64 (copyM hd).form,.int .i64 (copyM hd).n,.bool (copyM hd).hid,.str (copyM hd).name,slD 2 encL (copyM hd).levels,slD 6 encT (copyM hd).kids]])) (by omega) (fun k _ => lowO_one (low_flat (flatTA (copyM hd))))).mono hm
    have F := finishD_fz (n := m) (Fz.tup (.cons ((Fz.of2 (d := (D.agg [.int .i64 (copyM hd).form,.int .i64 (copyM hd).n,.bool (copyM hd).hid,.str (copyM hd).name,slD 2 encL (copyM hd).levels,slD 6 encT (copyM hd).kids])) (by rw [← encT_eq]; exact elemT.flat _)).mono (show 2 ≤ 3 by omega)) (.cons (Fz.bld elemT ((BAz.set y1 (by omega)).wide (show n ≤ n + 10 + 2 by omega))) (.cons (Fz.bld elemB ((BBz.set y1 (by omega)).wide (show n ≤ n + 10 + 2 by omega))) .nil)))) (by omega) Hm.leak
    rw [F,Hm.drop]
  simp (disch:=first|assumption|omega|(simp (disch:=first|assumption|omega) only [sB,Nat.reduceAdd,Nat.reduceLT,Nat.reduceLeDiff,Nat.reduceEqDiff,Nat.reduceMul,↓reduceIte,gG];done)|fail) only [sA,↓reduceIte,Nat.reduceLT,Nat.reduceEqDiff,Nat.reduceAdd,Nat.reduceLeDiff,g2,g5,g6,g7,y5,y1,cC,hA,hB,w,F,gG]
end Go.Proofs.Ytdijijblccmfbaa

/- The reference's Spine of terms. No condition but sizes. -/
namespace Go.Proofs.Ytdijijblccmfbaa
open Go

def Sl.made {α : Type} (l : List α) : Sl α := ⟨false,false,l,[]⟩
theorem spn_none {t : Tm} (h : (spn t).2.1 = []) (hfm : formedT t.abs = true) : t.form ≠ 5 := fun h5 => by
  obtain ⟨k0,k1,hk,_,_⟩ := kids_two h5 hfm
  rw [spn_app h5 hk] at h
  simp at h
theorem rep_set {α : Type} {z x : α} {D : List α} {i : Nat} : (List.replicate (i + 1) z ++ D).set i x = List.replicate i z ++ x :: D := by
  rw [List.replicate_succ',List.append_assoc,List.set_append_right _ _ (by rw [List.length_replicate]; omega),List.length_replicate,Nat.sub_self]
  rfl
set_option maxHeartbeats 8000000 in
set_option maxRecDepth 8000 in
theorem rSpine (t : Tm) (hfm : formedT t.abs = true) (hsl : slimT t.abs = true) (hsz : sizeT t.abs ≤ 20000) (n : Nat) (h : Hps) (hg : Gd n h) :
    callFn (LX (cFk kT Try.prog)) n h [(D.agg [.int .i64 (t).form,.int .i64 (t).n,.bool (t).hid,.str (t).name,slD 2 encL (t).levels,slD 6 encT (t).kids])] (cFk kT Try.prog 29) = .ok (.tup [encT (spn t).1,slD 6 encT (Sl.made (spn t).2.1),slD 1 encB (Sl.made (spn t).2.2)]) n h := by
  have hgn := hg n (Nat.le_refl _)
  have hG : ∀ m,n ≤ m → Gd m h := fun m hm => Gd.mono hg hm
  obtain ⟨_,_,_,_,p5,p6⟩ := spn_slim t hsl
  have H0 : Hp n h (n + 2) ((n + 1,(Ob.row 6 [.agg [.int .i64 0,.int .i64 0,.bool false,.str [],.nils,.nils]])) :: (n,(Ob.row 6 [.agg [.int .i64 (t).form,.int .i64 (t).n,.bool (t).hid,.str (t).name,slD 2 encL (t).levels,slD 6 encT (t).kids]])) :: h) := ((Hp.start hg).box (r := n) (m := n + 1) (Nat.le_refl _) (by omega) (flatTA t)).box (r := n + 1) (m := n + 2) (k := 6) (d := (D.agg [.int .i64 0,.int .i64 0,.bool false,.str [],.nils,.nils])) (by omega) (by omega) rfl
  rw [f29_eq]; unfold c29; rw [callFn_eq (by rfl)]
  simp (disch:=first|assumption|omega|(simp (disch:=first|assumption|omega) only [sB,Nat.reduceAdd,Nat.reduceLT,Nat.reduceLeDiff,Nat.reduceEqDiff,Nat.reduceMul,↓reduceIte];done)|fail) only [sA,↓reduceIte,Nat.reduceLT,Nat.reduceEqDiff,Nat.reduceAdd,Nat.reduceLeDiff]
  generalize hr : LX (cFk kT Try.prog) (.loop l29_0) _ _ _ = R
  obtain ⟨x,ez,nz,K,rfl,rfl,HK,p1,y0,y1,q1,q2,q3,q4,q5⟩ := loop_at hr
    (fun j e n' K => Hp n h n' K ∧ n + 2 ≤ n' ∧ getO K n = (Ob.row 6 [.agg [.int .i64 (t).form,.int .i64 (t).n,.bool (t).hid,.str (t).name,slD 2 encL (t).levels,slD 6 encT (t).kids]]) ∧ getO K (n + 1) = (Ob.row 6 [.agg [.int .i64 0,.int .i64 0,.bool false,.str [],.nils,.nils]]) ∧ get (po 1) e = .ptr n 0 0 ∧ get (po 2) e = .ptr (n + 1) 0 0 ∧ get (po 3) e = .nils ∧ get (po 4) e = .nils ∧ ∃ (cur : Tm) (c r : Nat),sizeT cur.abs = j ∧ formedT cur.abs = true ∧ c + (spn cur).2.1.length = (spn t).2.1.length ∧ n + 2 ≤ r ∧ r < n' ∧ getO K r = (Ob.row 6 [.agg [.int .i64 (cur).form,.int .i64 (cur).n,.bool (cur).hid,.str (cur).name,slD 2 encL (cur).levels,slD 6 encT (cur).kids]]) ∧ get (po 5) e = .int .i64 (c : Nat) ∧ get (po 6) e = .ptr r 0 0)
    (fun x e n' K => x = .exit 0 ∧ Hp n h n' K ∧ n + 2 ≤ n' ∧ getO K n = (Ob.row 6 [.agg [.int .i64 (t).form,.int .i64 (t).n,.bool (t).hid,.str (t).name,slD 2 encL (t).levels,slD 6 encT (t).kids]]) ∧ getO K (n + 1) = (Ob.row 6 [.agg [.int .i64 0,.int .i64 0,.bool false,.str [],.nils,.nils]]) ∧ get (po 1) e = .ptr n 0 0 ∧ get (po 2) e = .ptr (n + 1) 0 0 ∧ get (po 3) e = .nils ∧ get (po 4) e = .nils ∧ get (po 5) e = .int .i64 ((spn t).2.1.length : Nat))
    (by
      rintro j e n' K ⟨H,p1,y0,y1,q1,q2,q3,q4,cur,c,r,hj,hcf,hc,hr1,hr2,yr,q5,q6⟩
      unfold l29_0
      by_cases hf : cur.form = 5
      · obtain ⟨k0,k1,hk,hk0,hsz0⟩ := kids_two hf hcf
        have i0 : 0 < cur.kids.el.length := by rw [hk]; simp
        have e0 : ∀ hh,encT (cur.kids.el[0]'hh) = (D.agg [.int .i64 (k0).form,.int .i64 (k0).n,.bool (k0).hid,.str (k0).name,slD 2 encL (k0).levels,slD 6 encT (k0).kids]) := fun hh => by simp only [hk]; exact encT_eq _
        rw [spn_app hf hk] at hc
        replace hc : c + ((spn k0).2.1 ++ [k1]).length = (spn t).2.1.length := hc
        rw [List.length_append,List.length_singleton] at hc
        rw [hf] at yr
        simp (disch:=first|assumption|omega|(simp (disch:=first|assumption|omega) only [sB,Nat.reduceAdd,Nat.reduceLT,Nat.reduceLeDiff,Nat.reduceEqDiff,Nat.reduceMul,↓reduceIte,i0];done)|fail) only [sA,↓reduceIte,Nat.reduceLT,Nat.reduceEqDiff,Nat.reduceAdd,Nat.reduceLeDiff,q5,q6,yr,e0,i0]
        exact ⟨_,_,_,_,rfl,.inl ⟨rfl,sizeT k0.abs,by omega,(H.box (r := n' + 7) (m := n' + 8) (by omega) (by omega) (flatTA k0)).mono (by omega),by omega,by rw [getO_tl (by omega)]; exact y0,by rw [getO_tl (by omega)]; exact y1,by simp (disch:=first|assumption|omega|(simp (disch:=first|assumption|omega) only [sB,Nat.reduceAdd,Nat.reduceLT,Nat.reduceLeDiff,Nat.reduceEqDiff,Nat.reduceMul,↓reduceIte];done)|fail) only [sA,↓reduceIte,Nat.reduceLT,Nat.reduceEqDiff,Nat.reduceAdd,Nat.reduceLeDiff,q1],by simp (disch:=first|assumption|omega|(simp (disch:=first|assumption|omega) only [sB,Nat.reduceAdd,Nat.reduceLT,Nat.reduceLeDiff,Nat.reduceEqDiff,Nat.reduceMul,↓reduceIte];done)|fail) only [sA,↓reduceIte,Nat.reduceLT,Nat.reduceEqDiff,Nat.reduceAdd,Nat.reduceLeDiff,q2],by simp (disch:=first|assumption|omega|(simp (disch:=first|assumption|omega) only [sB,Nat.reduceAdd,Nat.reduceLT,Nat.reduceLeDiff,Nat.reduceEqDiff,Nat.reduceMul,↓reduceIte];done)|fail) only [sA,↓reduceIte,Nat.reduceLT,Nat.reduceEqDiff,Nat.reduceAdd,Nat.reduceLeDiff,q3],by simp (disch:=first|assumption|omega|(simp (disch:=first|assumption|omega) only [sB,Nat.reduceAdd,Nat.reduceLT,Nat.reduceLeDiff,Nat.reduceEqDiff,Nat.reduceMul,↓reduceIte];done)|fail) only [sA,↓reduceIte,Nat.reduceLT,Nat.reduceEqDiff,Nat.reduceAdd,Nat.reduceLeDiff,q4],k0,c + 1,n' + 7,rfl,hk0,by omega,by omega,by omega,getO_hd,by simp (disch:=first|assumption|omega|(simp (disch:=first|assumption|omega) only [sB,Nat.reduceAdd,Nat.reduceLT,Nat.reduceLeDiff,Nat.reduceEqDiff,Nat.reduceMul,↓reduceIte];done)|fail) only [sA,↓reduceIte,Nat.reduceLT,Nat.reduceEqDiff,Nat.reduceAdd,Nat.reduceLeDiff],by simp (disch:=first|assumption|omega|(simp (disch:=first|assumption|omega) only [sB,Nat.reduceAdd,Nat.reduceLT,Nat.reduceLeDiff,Nat.reduceEqDiff,Nat.reduceMul,↓reduceIte];done)|fail) only [sA,↓reduceIte,Nat.reduceLT,Nat.reduceEqDiff,Nat.reduceAdd,Nat.reduceLeDiff]⟩⟩
      · simp (disch:=first|assumption|omega|(simp (disch:=first|assumption|omega) only [sB,Nat.reduceAdd,Nat.reduceLT,Nat.reduceLeDiff,Nat.reduceEqDiff,Nat.reduceMul,↓reduceIte];done)|fail) only [sA,↓reduceIte,Nat.reduceLT,Nat.reduceEqDiff,Nat.reduceAdd,Nat.reduceLeDiff,q6,yr,hf]
        rw [spn_head hf] at hc
        refine ⟨_,_,_,_,rfl,.inr ⟨by simp,rfl,H.mono (by omega),by omega,y0,y1,by simp (disch:=first|assumption|omega|(simp (disch:=first|assumption|omega) only [sB,Nat.reduceAdd,Nat.reduceLT,Nat.reduceLeDiff,Nat.reduceEqDiff,Nat.reduceMul,↓reduceIte];done)|fail) only [sA,↓reduceIte,Nat.reduceLT,Nat.reduceEqDiff,Nat.reduceAdd,Nat.reduceLeDiff,q1],by simp (disch:=first|assumption|omega|(simp (disch:=first|assumption|omega) only [sB,Nat.reduceAdd,Nat.reduceLT,Nat.reduceLeDiff,Nat.reduceEqDiff,Nat.reduceMul,↓reduceIte];done)|fail) only [sA,↓reduceIte,Nat.reduceLT,Nat.reduceEqDiff,Nat.reduceAdd,Nat.reduceLeDiff,q2],by simp (disch:=first|assumption|omega|(simp (disch:=first|assumption|omega) only [sB,Nat.reduceAdd,Nat.reduceLT,Nat.reduceLeDiff,Nat.reduceEqDiff,Nat.reduceMul,↓reduceIte];done)|fail) only [sA,↓reduceIte,Nat.reduceLT,Nat.reduceEqDiff,Nat.reduceAdd,Nat.reduceLeDiff,q3],by simp (disch:=first|assumption|omega|(simp (disch:=first|assumption|omega) only [sB,Nat.reduceAdd,Nat.reduceLT,Nat.reduceLeDiff,Nat.reduceEqDiff,Nat.reduceMul,↓reduceIte];done)|fail) only [sA,↓reduceIte,Nat.reduceLT,Nat.reduceEqDiff,Nat.reduceAdd,Nat.reduceLeDiff,q4],?_⟩⟩
        rw [show (spn t).2.1.length = c from hc.symm]
        simp (disch:=first|assumption|omega|(simp (disch:=first|assumption|omega) only [sB,Nat.reduceAdd,Nat.reduceLT,Nat.reduceLeDiff,Nat.reduceEqDiff,Nat.reduceMul,↓reduceIte];done)|fail) only [sA,↓reduceIte,Nat.reduceLT,Nat.reduceEqDiff,Nat.reduceAdd,Nat.reduceLeDiff,q5])
    (sizeT t.abs) ⟨(H0.box (r := n + 6) (m := n + 7) (by omega) (by omega) (flatTA t)).mono (by omega),by omega,by rw [getO_tl (by omega),getO_tl (by omega),getO_hd],by rw [getO_tl (by omega),getO_hd],by simp (disch:=first|assumption|omega|(simp (disch:=first|assumption|omega) only [sB,Nat.reduceAdd,Nat.reduceLT,Nat.reduceLeDiff,Nat.reduceEqDiff,Nat.reduceMul,↓reduceIte];done)|fail) only [sA,↓reduceIte,Nat.reduceLT,Nat.reduceEqDiff,Nat.reduceAdd,Nat.reduceLeDiff],by simp (disch:=first|assumption|omega|(simp (disch:=first|assumption|omega) only [sB,Nat.reduceAdd,Nat.reduceLT,Nat.reduceLeDiff,Nat.reduceEqDiff,Nat.reduceMul,↓reduceIte];done)|fail) only [sA,↓reduceIte,Nat.reduceLT,Nat.reduceEqDiff,Nat.reduceAdd,Nat.reduceLeDiff],by simp (disch:=first|assumption|omega|(simp (disch:=first|assumption|omega) only [sB,Nat.reduceAdd,Nat.reduceLT,Nat.reduceLeDiff,Nat.reduceEqDiff,Nat.reduceMul,↓reduceIte];done)|fail) only [sA,↓reduceIte,Nat.reduceLT,Nat.reduceEqDiff,Nat.reduceAdd,Nat.reduceLeDiff],by simp (disch:=first|assumption|omega|(simp (disch:=first|assumption|omega) only [sB,Nat.reduceAdd,Nat.reduceLT,Nat.reduceLeDiff,Nat.reduceEqDiff,Nat.reduceMul,↓reduceIte];done)|fail) only [sA,↓reduceIte,Nat.reduceLT,Nat.reduceEqDiff,Nat.reduceAdd,Nat.reduceLeDiff],t,0,n + 6,rfl,hfm,by simp,by omega,by omega,getO_hd,by simp (disch:=first|assumption|omega|(simp (disch:=first|assumption|omega) only [sB,Nat.reduceAdd,Nat.reduceLT,Nat.reduceLeDiff,Nat.reduceEqDiff,Nat.reduceMul,↓reduceIte];done)|fail) only [sA,↓reduceIte,Nat.reduceLT,Nat.reduceEqDiff,Nat.reduceAdd,Nat.reduceLeDiff],by simp (disch:=first|assumption|omega|(simp (disch:=first|assumption|omega) only [sB,Nat.reduceAdd,Nat.reduceLT,Nat.reduceLeDiff,Nat.reduceEqDiff,Nat.reduceMul,↓reduceIte];done)|fail) only [sA,↓reduceIte,Nat.reduceLT,Nat.reduceEqDiff,Nat.reduceAdd,Nat.reduceLeDiff]⟩
  have hl1 : (spn t).2.1.length * 88 ≤ 140737488355328 := by omega
  have hl2 : (spn t).2.1.length * 1 ≤ 140737488355328 := by omega
  simp (disch:=first|assumption|omega|(simp (disch:=first|assumption|omega) only [sB,Nat.reduceAdd,Nat.reduceLT,Nat.reduceLeDiff,Nat.reduceEqDiff,Nat.reduceMul,↓reduceIte];done)|fail) only [sA,↓reduceIte,Nat.reduceLT,Nat.reduceEqDiff,Nat.reduceAdd,Nat.reduceLeDiff,q1,q2,q3,q4,q5,mksl_eq]
  have hz6 : List.replicate (spn t).2.1.length (D.agg [.int .i64 0,.int .i64 0,.bool false,.str [],.nils,.nils]) = (List.replicate (spn t).2.1.length zeroT).map encT := by rw [List.map_replicate,enc_zero]
  have hz1 : List.replicate (spn t).2.1.length (D.bool false) = (List.replicate (spn t).2.1.length false).map encB := by rw [List.map_replicate]; rfl
  rw [hz6,hz1]
  have H9 : Hp n h (nz + 9) ((nz + 4,.row 1 ((List.replicate (spn t).2.1.length false).map encB)) :: (nz + 1,.row 6 ((List.replicate (spn t).2.1.length zeroT).map encT)) :: K) := ((HK.cons (r := nz + 1) (m := nz + 2) (by omega) (by omega) (fun k _ => lowO_map (fun x => low_flat (flatT x)))).cons (r := nz + 4) (m := nz + 5) (by omega) (by omega) (fun k _ => lowO_map (fun x => low_flat rfl))).mono (by omega)
  generalize hr : LX (cFk kT Try.prog) (.loop l29_1) _ _ _ = R
  obtain ⟨x,e2,n2,G,rfl,rfl,H2,p2,cur,hspn,z0,z1,z6,z8,g2,g7,g8,g1⟩ := loop_at hr
    (fun j e n' K => Hp n h n' K ∧ nz + 9 ≤ n' ∧ ∃ (cur : Tm) (DD : List Tm) (EE : List Bool),formedT cur.abs = true ∧ (spn cur).1 = (spn t).1 ∧ (spn cur).2.1.length = j ∧ (spn cur).2.2.length = j ∧ (spn t).2.1 = (spn cur).2.1 ++ DD ∧ (spn t).2.2 = (spn cur).2.2 ++ EE ∧ getO K n = (Ob.row 6 [.agg [.int .i64 (cur).form,.int .i64 (cur).n,.bool (cur).hid,.str (cur).name,slD 2 encL (cur).levels,slD 6 encT (cur).kids]]) ∧ getO K (n + 1) = (Ob.row 6 [.agg [.int .i64 0,.int .i64 0,.bool false,.str [],.nils,.nils]]) ∧
      getO K (nz + 1) = .row 6 ((List.replicate j zeroT ++ DD).map encT) ∧ getO K (nz + 4) = .row 1 ((List.replicate j false ++ EE).map encB) ∧ get (po 1) e = .ptr n 0 0 ∧ get (po 2) e = .ptr (n + 1) 0 0 ∧ get (po 7) e = .ms 6 (nz + 1) 0 (spn t).2.1.length false ∧ get (po 8) e = .ms 1 (nz + 4) 0 (spn t).2.1.length false ∧ get (po 9) e = .int .i64 ((j : Nat) - 1 : Int))
    (fun x e n' K => x = .exit 2 ∧ Hp n h n' K ∧ nz + 9 ≤ n' ∧ ∃ cur : Tm,(spn t).1 = cur ∧ getO K n = (Ob.row 6 [.agg [.int .i64 (cur).form,.int .i64 (cur).n,.bool (cur).hid,.str (cur).name,slD 2 encL (cur).levels,slD 6 encT (cur).kids]]) ∧ getO K (n + 1) = (Ob.row 6 [.agg [.int .i64 0,.int .i64 0,.bool false,.str [],.nils,.nils]]) ∧ getO K (nz + 1) = .row 6 ((spn t).2.1.map encT) ∧ getO K (nz + 4) = .row 1 ((spn t).2.2.map encB) ∧ get (po 2) e = .ptr (n + 1) 0 0 ∧ get (po 7) e = .ms 6 (nz + 1) 0 (spn t).2.1.length false ∧ get (po 8) e = .ms 1 (nz + 4) 0 (spn t).2.1.length false ∧ get (po 1) e = .ptr n 0 0)
    (by
      rintro j e n' K ⟨H,p1,cur,DD,EE,hcf,c1,c2,c3,c4,c5,z0,z1,z6,z8,g1,g2,g7,g8,g9⟩
      unfold l29_1
      cases j with
      | zero =>
        have hneg : decide ((0 : Int) ≤ ((0 : Nat) : Int) - 1) = false := by decide
        have hh := spn_head (spn_none (List.length_eq_zero_iff.1 c2) hcf)
        rw [hh] at c1 c4 c5
        simp (disch:=first|assumption|omega|(simp (disch:=first|assumption|omega) only [sB,Nat.reduceAdd,Nat.reduceLT,Nat.reduceLeDiff,Nat.reduceEqDiff,Nat.reduceMul,↓reduceIte];done)|fail) only [sA,↓reduceIte,Nat.reduceLT,Nat.reduceEqDiff,Nat.reduceAdd,Nat.reduceLeDiff,g9,hneg]
        exact ⟨_,_,_,_,rfl,.inr ⟨by simp,rfl,H.mono (by omega),by omega,cur,c1.symm,z0,z1,by rw [c4]; exact z6,by rw [c5]; exact z8,by simp (disch:=first|assumption|omega|(simp (disch:=first|assumption|omega) only [sB,Nat.reduceAdd,Nat.reduceLT,Nat.reduceLeDiff,Nat.reduceEqDiff,Nat.reduceMul,↓reduceIte];done)|fail) only [sA,↓reduceIte,Nat.reduceLT,Nat.reduceEqDiff,Nat.reduceAdd,Nat.reduceLeDiff,g2],by simp (disch:=first|assumption|omega|(simp (disch:=first|assumption|omega) only [sB,Nat.reduceAdd,Nat.reduceLT,Nat.reduceLeDiff,Nat.reduceEqDiff,Nat.reduceMul,↓reduceIte];done)|fail) only [sA,↓reduceIte,Nat.reduceLT,Nat.reduceEqDiff,Nat.reduceAdd,Nat.reduceLeDiff,g7],by simp (disch:=first|assumption|omega|(simp (disch:=first|assumption|omega) only [sB,Nat.reduceAdd,Nat.reduceLT,Nat.reduceLeDiff,Nat.reduceEqDiff,Nat.reduceMul,↓reduceIte];done)|fail) only [sA,↓reduceIte,Nat.reduceLT,Nat.reduceEqDiff,Nat.reduceAdd,Nat.reduceLeDiff,g8],by simp (disch:=first|assumption|omega|(simp (disch:=first|assumption|omega) only [sB,Nat.reduceAdd,Nat.reduceLT,Nat.reduceLeDiff,Nat.reduceEqDiff,Nat.reduceMul,↓reduceIte];done)|fail) only [sA,↓reduceIte,Nat.reduceLT,Nat.reduceEqDiff,Nat.reduceAdd,Nat.reduceLeDiff,g1]⟩⟩
      | succ i =>
        rw [show (((i + 1 : Nat) : Int) - 1) = ((i : Nat) : Int) by omega] at g9
        have hf : cur.form = 5 := by
          by_cases hf : cur.form = 5
          · exact hf
          · rw [spn_head hf] at c2; cases c2
        obtain ⟨k0,k1,hk,hk0,hsz0⟩ := kids_two hf hcf
        have hs := spn_app hf hk
        have i0 : 0 < cur.kids.el.length := by rw [hk]; simp
        have i1 : 1 < cur.kids.el.length := by rw [hk]; simp
        have e0 : ∀ hh,encT (cur.kids.el[0]'hh) = (D.agg [.int .i64 (k0).form,.int .i64 (k0).n,.bool (k0).hid,.str (k0).name,slD 2 encL (k0).levels,slD 6 encT (k0).kids]) := fun hh => by simp only [hk]; exact encT_eq _
        have e1 : ∀ hh,encT (cur.kids.el[1]'hh) = (D.agg [.int .i64 (k1).form,.int .i64 (k1).n,.bool (k1).hid,.str (k1).name,slD 2 encL (k1).levels,slD 6 encT (k1).kids]) := fun hh => by simp only [hk]; exact encT_eq _
        have hpos : (0 : Int) ≤ ((i : Nat) : Int) := by omega
        have hil : i < (spn t).2.1.length := by rw [c4,List.length_append]; omega
        have hi6 : i < (List.replicate (i + 1) zeroT ++ DD).length := by rw [List.length_append,List.length_replicate]; omega
        have hi8 : i < (List.replicate (i + 1) false ++ EE).length := by rw [List.length_append,List.length_replicate]; omega
        rw [hf] at z0
        have w1 : ∀ X,getO (setO K (nz + 1) X) (nz + 4) = .row 1 ((List.replicate (i + 1) false ++ EE).map encB) := fun X => getO_set2 z6 z8 (by omega)
        have w2 : ∀ X,getO (setO K (nz + 1) X) n = .row 6 [.agg [.int .i64 5,.int .i64 cur.n,.bool cur.hid,.str cur.name,slD 2 encL cur.levels,slD 6 encT cur.kids]] := fun X => getO_set2 z6 z0 (by omega)
        have w3 : ∀ X Y,getO (setO (setO K (nz + 1) X) (nz + 4) Y) n = .row 6 [.agg [.int .i64 5,.int .i64 cur.n,.bool cur.hid,.str cur.name,slD 2 encL cur.levels,slD 6 encT cur.kids]] := fun X Y => getO_set2 (w1 X) (w2 X) (by omega)
        simp (disch:=first|assumption|omega|(simp (disch:=first|assumption|omega) only [sB,Nat.reduceAdd,Nat.reduceLT,Nat.reduceLeDiff,Nat.reduceEqDiff,Nat.reduceMul,↓reduceIte,i0,i1,hil,hi6,hi8];done)|fail) only [sA,↓reduceIte,Nat.reduceLT,Nat.reduceEqDiff,Nat.reduceAdd,Nat.reduceLeDiff,g1,g7,g8,g9,z0,z6,w1,w2,w3,hpos,e0,e1,iaddr_ms,store_tm,store_b,i0,i1,hil,hi6,hi8]
        rw [hs] at c1 c2 c3 c4 c5
        have c2' : (spn k0).2.1.length = i := by
          have : ((spn k0).2.1 ++ [k1]).length = i + 1 := c2
          rw [List.length_append,List.length_singleton] at this; omega
        have c3' : (spn k0).2.2.length = i := by
          have : ((spn k0).2.2 ++ [cur.hid]).length = i + 1 := c3
          rw [List.length_append,List.length_singleton] at this; omega
        exact ⟨_,_,_,_,rfl,.inl ⟨rfl,i,by omega,(((H.set (r := nz + 1) (by omega) (fun k _ => lowO_map (fun x => low_flat (flatT x)))).set (r := nz + 4) (by omega) (fun k _ => lowO_map (fun x => low_flat rfl))).set (r := n) (by omega) (fun k _ => lowO_one (low_flat (flatTA k0)))).mono (by omega),by omega,k0,k1 :: DD,cur.hid :: EE,hk0,c1,c2',c3',by rw [c4]; simp,by rw [c5]; simp,
          getO_set1 (w3 _ _),getO_set2 (w3 _ _) (getO_set2 (w1 _) (getO_set2 z6 z1 (by omega)) (by omega)) (by omega),by rw [← rep_set]; exact getO_set2 (w3 _ _) (getO_set2 (w1 _) (getO_set1 z6) (by omega)) (by omega),by rw [← rep_set]; exact getO_set2 (w3 _ _) (getO_set1 (w1 _)) (by omega),by simp (disch:=first|assumption|omega|(simp (disch:=first|assumption|omega) only [sB,Nat.reduceAdd,Nat.reduceLT,Nat.reduceLeDiff,Nat.reduceEqDiff,Nat.reduceMul,↓reduceIte];done)|fail) only [sA,↓reduceIte,Nat.reduceLT,Nat.reduceEqDiff,Nat.reduceAdd,Nat.reduceLeDiff,g1],by simp (disch:=first|assumption|omega|(simp (disch:=first|assumption|omega) only [sB,Nat.reduceAdd,Nat.reduceLT,Nat.reduceLeDiff,Nat.reduceEqDiff,Nat.reduceMul,↓reduceIte];done)|fail) only [sA,↓reduceIte,Nat.reduceLT,Nat.reduceEqDiff,Nat.reduceAdd,Nat.reduceLeDiff,g2],by simp (disch:=first|assumption|omega|(simp (disch:=first|assumption|omega) only [sB,Nat.reduceAdd,Nat.reduceLT,Nat.reduceLeDiff,Nat.reduceEqDiff,Nat.reduceMul,↓reduceIte];done)|fail) only [sA,↓reduceIte,Nat.reduceLT,Nat.reduceEqDiff,Nat.reduceAdd,Nat.reduceLeDiff,g7],by simp (disch:=first|assumption|omega|(simp (disch:=first|assumption|omega) only [sB,Nat.reduceAdd,Nat.reduceLT,Nat.reduceLeDiff,Nat.reduceEqDiff,Nat.reduceMul,↓reduceIte];done)|fail) only [sA,↓reduceIte,Nat.reduceLT,Nat.reduceEqDiff,Nat.reduceAdd,Nat.reduceLeDiff,g8],by simp (disch:=first|assumption|omega|(simp (disch:=first|assumption|omega) only [sB,Nat.reduceAdd,Nat.reduceLT,Nat.reduceLeDiff,Nat.reduceEqDiff,Nat.reduceMul,↓reduceIte];done)|fail) only [sA,↓reduceIte,Nat.reduceLT,Nat.reduceEqDiff,Nat.reduceAdd,Nat.reduceLeDiff]⟩⟩)
    (spn t).2.1.length ⟨H9,by omega,t,[],[],hfm,rfl,rfl,p5.symm,by simp,by simp,by rw [getO_tl (by omega),getO_tl (by omega)]; exact y0,by rw [getO_tl (by omega),getO_tl (by omega)]; exact y1,by rw [getO_tl (by omega),getO_hd,List.append_nil],by rw [getO_hd,List.append_nil],by simp (disch:=first|assumption|omega|(simp (disch:=first|assumption|omega) only [sB,Nat.reduceAdd,Nat.reduceLT,Nat.reduceLeDiff,Nat.reduceEqDiff,Nat.reduceMul,↓reduceIte];done)|fail) only [sA,↓reduceIte,Nat.reduceLT,Nat.reduceEqDiff,Nat.reduceAdd,Nat.reduceLeDiff,q1],by simp (disch:=first|assumption|omega|(simp (disch:=first|assumption|omega) only [sB,Nat.reduceAdd,Nat.reduceLT,Nat.reduceLeDiff,Nat.reduceEqDiff,Nat.reduceMul,↓reduceIte];done)|fail) only [sA,↓reduceIte,Nat.reduceLT,Nat.reduceEqDiff,Nat.reduceAdd,Nat.reduceLeDiff,q2],by simp (disch:=first|assumption|omega|(simp (disch:=first|assumption|omega) only [sB,Nat.reduceAdd,Nat.reduceLT,Nat.reduceLeDiff,Nat.reduceEqDiff,Nat.reduceMul,↓reduceIte];done)|fail) only [sA,↓reduceIte,Nat.reduceLT,Nat.reduceEqDiff,Nat.reduceAdd,Nat.reduceLeDiff],by simp (disch:=first|assumption|omega|(simp (disch:=first|assumption|omega) only [sB,Nat.reduceAdd,Nat.reduceLT,Nat.reduceLeDiff,Nat.reduceEqDiff,Nat.reduceMul,↓reduceIte];done)|fail) only [sA,↓reduceIte,Nat.reduceLT,Nat.reduceEqDiff,Nat.reduceAdd,Nat.reduceLeDiff],by simp (disch:=first|assumption|omega|(simp (disch:=first|assumption|omega) only [sB,Nat.reduceAdd,Nat.reduceLT,Nat.reduceLeDiff,Nat.reduceEqDiff,Nat.reduceMul,↓reduceIte];done)|fail) only [sA,↓reduceIte,Nat.reduceLT,Nat.reduceEqDiff,Nat.reduceAdd,Nat.reduceLeDiff]⟩
  have w : ∀ X,getO (setO G (n + 1) X) (n + 1) = X := fun X => getO_setO_same (by rw [z1]; simp)
  have F : ∀ m,n2 ≤ m → finishD n m (setO G (n + 1) (Ob.row 6 [.agg [.int .i64 (cur).form,.int .i64 (cur).n,.bool (cur).hid,.str (cur).name,slD 2 encL (cur).levels,slD 6 encT (cur).kids]])) (.tup [(D.agg [.int .i64 (cur).form,.int .i64 (cur).n,.bool (cur).hid,.str (cur).name,slD 2 encL (cur).levels,slD 6 encT (cur).kids]),.ms 6 (nz + 1) 0 (spn t).2.1.length false,.ms 1 (nz + 4) 0 (spn t).2.1.length false]) = .ok (.tup [(D.agg [.int .i64 (cur).form,.int .i64 (cur).n,.bool (cur).hid,.str (cur).name,slD 2 encL (cur).levels,slD 6 encT (cur).kids]),slD 6 encT (Sl.made (spn t).2.1),slD 1 encB (Sl.made (spn t).2.2)]) n h := fun m hm => by
    have Hm := (H2.set (r := n + 1) (x := (Ob.row 6 [.agg [.int .i64 (cur).form,.int .i64 (cur).n,.bool (cur).hid,.str (cur).name,slD 2 encL (cur).levels,slD 6 encT (cur).kids]])) (by omega) (fun k _ => lowO_one (low_flat (flatTA cur)))).mono hm
    have f1 := Fz.ms (n0 := n) (r := nz + 1) (full := false) elemT (by omega) (getO_set2 (x := (Ob.row 6 [.agg [.int .i64 (cur).form,.int .i64 (cur).n,.bool (cur).hid,.str (cur).name,slD 2 encL (cur).levels,slD 6 encT (cur).kids]])) z1 z6 (show nz + 1 ≠ n + 1 by omega))
    have f2 := Fz.ms (n0 := n) (r := nz + 4) (full := false) elemB (by omega) (getO_set2 (x := (Ob.row 6 [.agg [.int .i64 (cur).form,.int .i64 (cur).n,.bool (cur).hid,.str (cur).name,slD 2 encL (cur).levels,slD 6 encT (cur).kids]])) z1 z8 (show nz + 4 ≠ n + 1 by omega))
    rw [← p5] at f2
    have F := finishD_fz (n := m) (Fz.tup (.cons ((Fz.of2 (d := (D.agg [.int .i64 (cur).form,.int .i64 (cur).n,.bool (cur).hid,.str (cur).name,slD 2 encL (cur).levels,slD 6 encT (cur).kids])) (by rw [← encT_eq]; exact elemT.flat _)).mono (show 2 ≤ 3 by omega)) (.cons f1 (.cons f2 .nil)))) (by omega) Hm.leak
    rw [F,Hm.drop]
    rfl
  rw [hspn,encT_eq]
  simp (disch:=first|assumption|omega|(simp (disch:=first|assumption|omega) only [sB,Nat.reduceAdd,Nat.reduceLT,Nat.reduceLeDiff,Nat.reduceEqDiff,Nat.reduceMul,↓reduceIte];done)|fail) only [sA,↓reduceIte,Nat.reduceLT,Nat.reduceEqDiff,Nat.reduceAdd,Nat.reduceLeDiff,g1,g2,g7,g8,z0,z1,w,F]
end Go.Proofs.Ytdijijblccmfbaa

/- TeleSpine: what stands at the head of a row,and its arguments: the law's own steps. No condition but sizes. -/
namespace Go.Proofs.Ytdijijblccmfbaa
open Go

theorem size1_eq (t : Trm) : sizeT1 t = true ↔ ((t.levels.length ≤ 1000000000 ∧ t.kids.length ≤ 1000000000) ∧ ∀ x,x ∈ t.levels → x.v.length ≤ 1000000000) ∧ ∀ k,k ∈ t.kids → sizeT1 k = true := by
  unfold sizeT1
  rw [allT_eq,allTs_eq,Bool.and_eq_true,Bool.and_eq_true,decide_eq_true_iff,List.all_eq_true,List.all_eq_true]
  exact ⟨fun h => ⟨⟨h.1.1,fun x hx => of_decide_eq_true (h.1.2 x hx)⟩,h.2⟩,fun h => ⟨⟨h.1.1,fun x hx => decide_eq_true (h.1.2 x hx)⟩,h.2⟩⟩
theorem size1_clean : ∀ t : Trm,sizeT1 t = true → sizeT1 (cleanT t) = true := by
  refine Trm.ind ?_
  intro t ih h
  obtain ⟨⟨⟨h1,h2⟩,h3⟩,h4⟩ := (size1_eq t).1 h
  rw [clean_tidy]
  refine (size1_eq _).2 ⟨⟨⟨?_,by show (t.kids.map cleanT).length ≤ _; rw [List.length_map]; exact h2⟩,fun x hx => ?_⟩,fun k hk => ?_⟩
  · show (if t.form = 2 ∨ t.form = 10 then t.levels else []).length ≤ _
    split
    · exact h1
    · simp
  · replace hx : x ∈ (if t.form = 2 ∨ t.form = 10 then t.levels else []) := hx
    split at hx
    · exact h3 x hx
    · cases hx
  · obtain ⟨y,hy,rfl⟩ := List.mem_map.1 hk
    exact ih y hy (h4 y hy)
theorem spn_size1 : ∀ t : Tm,formedT t.abs = true → sizeT1 t.abs = true → (formedT (spn t).1.abs = true ∧ sizeT1 (spn t).1.abs = true) ∧ ∀ x,x ∈ (spn t).2.1 → formedT x.abs = true ∧ sizeT1 x.abs = true := by
  refine Tm.ind ?_
  intro t ih hf hs
  by_cases h5 : t.form = 5
  · obtain ⟨k0,k1,hk,hk0,_⟩ := kids_two h5 hf
    have m0 : k0 ∈ t.kids.el := by rw [hk]; simp
    have m1 : k1 ∈ t.kids.el := by rw [hk]; simp
    have hsk := (size1_tm hs).2.2
    have hk1 : formedT k1.abs = true := by
      rw [formed_tm,Bool.and_eq_true,List.all_eq_true] at hf
      exact hf.2 k1 m1
    obtain ⟨a1,a2⟩ := ih k0 m0 hk0 (hsk k0 m0)
    rw [spn_app h5 hk]
    refine ⟨a1,fun x hx => ?_⟩
    rcases List.mem_append.1 hx with hx | hx
    · exact a2 x hx
    · rw [List.mem_singleton.1 hx]; exact ⟨hk1,hsk k1 m1⟩
  · rw [spn_head h5]
    exact ⟨⟨hf,hs⟩,fun x hx => (by cases hx)⟩
theorem copy_abs (t : Tm) (hf : formedT t.abs = true) (hs : sizeT t.abs ≤ 20000) : (copyM t).abs = cleanT t.abs := by
  refine copy_val t (formed_leaf _ hf) 0 1099511627776 ?_
  have := (runM_low steadyC t 0 1099511627776).1
  omega
set_option maxHeartbeats 8000000 in
theorem sSame (sa sb : Sl Tm) (hl : sa.el.length = sb.el.length) (hlb : sa.el.length ≤ 1000000000) (hab : ∀ (i : Nat) (hi : i < sa.el.length) (hi' : i < sb.el.length),sa.el[i].abs = cleanT sb.el[i].abs) (s1 : ∀ x,x ∈ sa.el → sizeT1 x.abs = true) (s2 : ∀ x,x ∈ sb.el → sizeT1 x.abs = true) (n : Nat) (h : Hps) (hg : Gd n h) :
    callFn (LX (cFk kT Try.prog)) n h [slD 6 encT sa,slD 6 encT sb] (cFk kT Try.prog 31) = .ok (.bool true) n h := by
  have hgn := hg n (Nat.le_refl _)
  have d1 : decide (((sa.el.length : Nat) : Int) = ((sb.el.length : Nat) : Int)) = true := decide_eq_true (by omega)
  have H0 : Hp n h n h := Hp.start hg
  rw [f31_eq]; unfold c31; rw [callFn_eq (by rfl)]
  simp (disch:=first|assumption|omega|(simp (disch:=first|assumption|omega) only [sB,Nat.reduceAdd,Nat.reduceLT,Nat.reduceLeDiff,Nat.reduceEqDiff,Nat.reduceMul,↓reduceIte];done)|fail) only [sA,↓reduceIte,Nat.reduceLT,Nat.reduceEqDiff,Nat.reduceAdd,Nat.reduceLeDiff,d1]
  generalize hr : LX (cFk kT Try.prog) (.loop l31_0) _ _ _ = R
  obtain ⟨x,e,nz,G,rfl,rfl,HG⟩ := loop_up hr sa.el.length
    (fun i e n' G => Hp n h n' G ∧ get (po 0) e = slD 6 encT sa ∧ get (po 1) e = slD 6 encT sb ∧ get (po 5) e = .int .i64 (i : Nat))
    (fun x e n' G => x = .exit 0 ∧ Hp n h n' G)
    (by
      rintro e n' G ⟨H,q0,q1,q5⟩
      unfold l31_0
      simp (disch:=first|assumption|omega|(simp (disch:=first|assumption|omega) only [sB,Nat.reduceAdd,Nat.reduceLT,Nat.reduceLeDiff,Nat.reduceEqDiff,Nat.reduceMul,↓reduceIte];done)|fail) only [sA,↓reduceIte,Nat.reduceLT,Nat.reduceEqDiff,Nat.reduceAdd,Nat.reduceLeDiff,q0,q5]
      exact ⟨_,_,_,_,rfl,by simp,rfl,H.mono (by omega)⟩)
    (by
      rintro i e n' G hi ⟨H,q0,q1,q5⟩
      have hi' : i < sb.el.length := by omega
      have hG : ∀ m,n' ≤ m → Gd m G := fun m hm => H.good' hm
      have hky : ∀ m,n' ≤ m → keysFrom m G = [] := fun m hm => keys_gd (hG m hm)
      have c1 := rClean sb.el[i] (s2 _ (List.getElem_mem hi'))
      have c2 := exT sa.el[i] (s1 _ (List.getElem_mem hi)) (rcl sb.el[i]) (by rw [rcl_abs]; exact hab i hi hi')
      rw [encT_eq (rcl sb.el[i])] at c1
      have e1 : encT sa.el[i] = (D.agg [.int .i64 (sa.el[i]).form,.int .i64 (sa.el[i]).n,.bool (sa.el[i]).hid,.str (sa.el[i]).name,slD 2 encL (sa.el[i]).levels,slD 6 encT (sa.el[i]).kids]) := encT_eq _
      have e2 : encT sb.el[i] = (D.agg [.int .i64 (sb.el[i]).form,.int .i64 (sb.el[i]).n,.bool (sb.el[i]).hid,.str (sb.el[i]).name,slD 2 encL (sb.el[i]).levels,slD 6 encT (sb.el[i]).kids]) := encT_eq _
      unfold l31_0
      simp (disch:=first|assumption|omega|(simp (disch:=first|assumption|omega) only [sB,Nat.reduceAdd,Nat.reduceLT,Nat.reduceLeDiff,Nat.reduceEqDiff,Nat.reduceMul,↓reduceIte,hG,gd_nil,hi'];done)|fail) only [sA,↓reduceIte,Nat.reduceLT,Nat.reduceEqDiff,Nat.reduceAdd,Nat.reduceLeDiff,q0,q1,q5,e1,e2,c1,c2,hky,hG,gd_nil,hi']
      exact ⟨_,_,_,_,rfl,.inl ⟨rfl,H.mono (by omega),by simp (disch:=first|assumption|omega|(simp (disch:=first|assumption|omega) only [sB,Nat.reduceAdd,Nat.reduceLT,Nat.reduceLeDiff,Nat.reduceEqDiff,Nat.reduceMul,↓reduceIte];done)|fail) only [sA,↓reduceIte,Nat.reduceLT,Nat.reduceEqDiff,Nat.reduceAdd,Nat.reduceLeDiff,q0],by simp (disch:=first|assumption|omega|(simp (disch:=first|assumption|omega) only [sB,Nat.reduceAdd,Nat.reduceLT,Nat.reduceLeDiff,Nat.reduceEqDiff,Nat.reduceMul,↓reduceIte];done)|fail) only [sA,↓reduceIte,Nat.reduceLT,Nat.reduceEqDiff,Nat.reduceAdd,Nat.reduceLeDiff,q1],by simp (disch:=first|assumption|omega|(simp (disch:=first|assumption|omega) only [sB,Nat.reduceAdd,Nat.reduceLT,Nat.reduceLeDiff,Nat.reduceEqDiff,Nat.reduceMul,↓reduceIte];done)|fail) only [sA,↓reduceIte,Nat.reduceLT,Nat.reduceEqDiff,Nat.reduceAdd,Nat.reduceLeDiff]⟩⟩)
    ⟨H0.mono (by omega),by simp (disch:=first|assumption|omega|(simp (disch:=first|assumption|omega) only [sB,Nat.reduceAdd,Nat.reduceLT,Nat.reduceLeDiff,Nat.reduceEqDiff,Nat.reduceMul,↓reduceIte];done)|fail) only [sA,↓reduceIte,Nat.reduceLT,Nat.reduceEqDiff,Nat.reduceAdd,Nat.reduceLeDiff],by simp (disch:=first|assumption|omega|(simp (disch:=first|assumption|omega) only [sB,Nat.reduceAdd,Nat.reduceLT,Nat.reduceLeDiff,Nat.reduceEqDiff,Nat.reduceMul,↓reduceIte];done)|fail) only [sA,↓reduceIte,Nat.reduceLT,Nat.reduceEqDiff,Nat.reduceAdd,Nat.reduceLeDiff],by simp (disch:=first|assumption|omega|(simp (disch:=first|assumption|omega) only [sB,Nat.reduceAdd,Nat.reduceLT,Nat.reduceLeDiff,Nat.reduceEqDiff,Nat.reduceMul,↓reduceIte];done)|fail) only [sA,↓reduceIte,Nat.reduceLT,Nat.reduceEqDiff,Nat.reduceAdd,Nat.reduceLeDiff]⟩
  simp (disch:=first|assumption|omega|(simp (disch:=first|assumption|omega) only [sB,Nat.reduceAdd,Nat.reduceLT,Nat.reduceLeDiff,Nat.reduceEqDiff,Nat.reduceMul,↓reduceIte];done)|fail) only [sA,↓reduceIte,Nat.reduceLT,Nat.reduceEqDiff,Nat.reduceAdd,Nat.reduceLeDiff,finish_flat (d := .bool true) rfl (HG.mono (show nz ≤ nz + 1 by omega))]
theorem aliveV : callFn (LX (cFk kT Try.prog)) 3 [] [] ((cFk kT Try.prog) 26) = .ok (.bool true) 3 [] := by
  have h : callFn (exec (tT4.look (cFk kT Try.prog)) 1000) 3 [] [] (tT4.look (cFk kT Try.prog) 26) = .ok (.bool true) 3 [] := by kernel_rfl
  rw [Tb.look_eq tT4_ok] at h
  exact callFn_LX _ h
end Go.Proofs.Ytdijijblccmfbaa

/- TeleSpine: what stands at the head of a row,and its arguments. Condition: what is handed in is of bulk at most 1048576. -/
namespace Go.Proofs.Ytdijijblccmfbaa
open Go Go.ChangeShapes Go.WideShapes Go.ChangeAt Go.RowKit

theorem leve_arg {H : Type} (f : Nat) (x : DataW H) (h : Fit Try.prog f 65 x) : ∃ l : SLev,dVal Try.prog f 65 x = encL l ∧ (Rows.uptoBulk x ≤ 1048576 → l.vs.el.length ≤ 1048576) := by
  obtain ⟨g,a,b,rfl,rfl,h1,h2,h4⟩ := struct2 Try.underlying65 h
  obtain ⟨i,e1,_⟩ := int_arg Try.underlying3 h1
  obtain ⟨s,e2,_,n5⟩ := slice_arg (k := 2) (enc := encV) (R := fun _ _ => True) Try.underlying63 (by kernel_rfl) h2 (fun g' y _ hy => lvar_arg g' y hy)
  refine ⟨⟨i,s⟩,?_,fun hb => ?_⟩
  · rw [h4]
    show D.agg (cells (dVal _ g 3 a) ++ cells (dVal _ g 63 b)) = _
    rw [e1,e2,cells_int,cells_slD]
    rfl
  · rw [bulk_agg,bulk_cons,bulk_cons,bulk_nil] at hb
    show s.el.length ≤ _
    rcases n5 with ⟨_,h8,_⟩ | ⟨es,sp,rfl,h8,_⟩
    · rw [h8]; simp
    · have := h8.len
      rw [bulk_slice] at hb
      have := bulk_len es
      omega
theorem tmd_arg {H : Type} : ∀ (f : Nat) (x : DataW H),Fit Try.prog f 25 x → ∃ t : Tm,dVal Try.prog f 25 x = encT t ∧ saneT t.abs = true ∧ (Rows.uptoBulk x ≤ 1048576 → fewT t.abs = true ∧ sizeT1 t.abs = true) := by
  intro f
  induction f using Nat.strongRecOn with
  | _ f ih =>
  intro x h
  obtain ⟨g,a,b,c,d,e,k,rfl,rfl,h1,h2,h3,h4,h5,h6,h7⟩ := struct6 Try.underlying25 h
  obtain ⟨i,e1,_⟩ := int_arg Try.underlying3 h1
  obtain ⟨j,e2,_⟩ := int_arg Try.underlying3 h2
  obtain ⟨q,e3⟩ := bool_arg Try.underlying4 h3
  obtain ⟨l,rfl,e4,_⟩ := str_arg Try.underlying9 h4
  obtain ⟨ls,e5,m5,n5⟩ := slice_arg (k := 2) (enc := encL) (R := fun l y => Rows.uptoBulk y ≤ 1048576 → l.vs.el.length ≤ 1048576) Try.underlying22 (by kernel_rfl) h5 (fun g' y _ hy => leve_arg g' y hy)
  obtain ⟨s,e6,m6,m7⟩ := slice_arg (k := 6) (enc := encT) (R := fun t y => saneT t.abs = true ∧ (Rows.uptoBulk y ≤ 1048576 → fewT t.abs = true ∧ sizeT1 t.abs = true)) Try.underlying23 (by kernel_rfl) h6 (fun g' y hg hy => by
    obtain ⟨t,e,hs⟩ := ih g' (by omega) y hy
    exact ⟨t,e,hs⟩)
  refine ⟨.mk i j q (l.map UInt8.toNat) ls s.nil s.full s.el s.sp,?_,?_,?_⟩
  · rw [h7,encT_eq]
    show D.agg (cells (dVal _ g 3 a) ++ (cells (dVal _ g 3 b) ++ (cells (dVal _ g 4 c) ++ (cells (dVal _ g 9 _) ++ (cells (dVal _ g 22 e) ++ cells (dVal _ g 23 k)))))) = _
    rw [e1,e2,e3,e4,e5,e6,cells_int,cells_int,cells_bool,cells_str,cells_slD,cells_slD]
    rfl
  · refine (sane_eq _).2 ⟨?_,?_⟩
    · rw [abs_levels,abs_kids,List.length_map,List.length_map]
      show ls.el.length ≤ _ ∧ s.el.length ≤ _
      have : maxLen = 9223372036854775807 := rfl
      omega
    · rw [abs_kids]
      intro k hk
      obtain ⟨y,hy,rfl⟩ := List.mem_map.1 hk
      replace hy : y ∈ s.el := hy
      rcases m7 with ⟨_,h8,_⟩ | ⟨es,sp,_,h8,_⟩
      · rw [h8] at hy; cases hy
      · obtain ⟨_,_,h9⟩ := h8.mem y hy
        exact h9.1
  · intro hb
    rw [bulk_agg,bulk_cons,bulk_cons,bulk_cons,bulk_cons,bulk_cons,bulk_cons,bulk_nil] at hb
    have kl : ls.el.length ≤ 1048576 ∧ ∀ y,y ∈ ls.el → y.vs.el.length ≤ 1048576 := by
      rcases n5 with ⟨_,h8,_⟩ | ⟨es,sp,rfl,h8,_⟩
      · rw [h8]; exact ⟨by simp,fun y hy => (by cases hy)⟩
      · rw [bulk_slice] at hb
        refine ⟨by have := h8.len; have := bulk_len es; omega,fun y hy => ?_⟩
        obtain ⟨z,hz,h9⟩ := h8.mem y hy
        have := bulk_mem hz
        exact h9 (by omega)
    have kk : s.el.length ≤ 1048576 ∧ ∀ y,y ∈ s.el → fewT y.abs = true ∧ sizeT1 y.abs = true := by
      rcases m7 with ⟨_,h8,_⟩ | ⟨es,sp,rfl,h8,_⟩
      · rw [h8]; exact ⟨by simp,fun y hy => (by cases hy)⟩
      · rw [bulk_slice] at hb
        refine ⟨by have := h8.len; have := bulk_len es; omega,fun y hy => ?_⟩
        obtain ⟨z,hz,h9⟩ := h8.mem y hy
        have := bulk_mem hz
        exact h9.2 (by omega)
    refine ⟨(few_eq _).2 ⟨?_,?_⟩,(size1_eq _).2 ⟨⟨⟨?_,?_⟩,?_⟩,?_⟩⟩
    · rw [abs_levels,List.length_map]; show ls.el.length ≤ _; omega
    · rw [abs_kids]
      intro k hk
      obtain ⟨y,hy,rfl⟩ := List.mem_map.1 hk
      exact (kk.2 y hy).1
    · rw [abs_levels,List.length_map]; show ls.el.length ≤ _; omega
    · rw [abs_kids,List.length_map]; show s.el.length ≤ _; omega
    · rw [abs_levels]
      intro x hx
      obtain ⟨y,hy,rfl⟩ := List.mem_map.1 hx
      have := kl.2 y hy
      show y.vs.el.length ≤ _
      omega
    · rw [abs_kids]
      intro k hk
      obtain ⟨y,hy,rfl⟩ := List.mem_map.1 hk
      exact (kk.2 y hy).2
theorem made_el {α : Type} {l : List α} : (Sl.made l).el = l := eqOf rfl
theorem leak_no (h : Hps) : Ytdijijblccmfbaa.leak 0 h = false := by
  induction h with
  | nil => rfl
  | cons p t ih => rw [show p = (p.1,p.2) from rfl,leak_new (Nat.zero_le _)]; exact ih
theorem good_pts {t : Trm} (h : checkT t = 0) : formedT t = true ∧ sizeT t ≤ 20000 ∧ highT t ≤ 500 := by
  have h1 := check_ok.1 h
  unfold goodT fitsT at h1
  rw [Bool.and_eq_true,decide_eq_true_iff] at h1
  exact ⟨h1.2,h1.1⟩
set_option maxHeartbeats 16000000 in
set_option maxRecDepth 8000 in
theorem sp_run (t : Tm) (st : saneT t.abs = true) (wt : fewT t.abs = true) (nt : sizeT1 t.abs = true) : ∃ n' h',callFn (LX (cFk kT Try.prog)) 0 [] [(D.agg [.int .i64 (t).form,.int .i64 (t).n,.bool (t).hid,.str (t).name,slD 2 encL (t).levels,slD 6 encT (t).kids])] ((cFk kT Try.prog) 5) = .ok (.bool true) n' h' := by
  have F0 := fun m h => finishD_flat (n0 := 0) (n := m) (d := .bool true) rfl (leak_no h)
  have hG : ∀ m,1 ≤ m → Gd m [(0,(Ob.row 6 [.agg [.int .i64 (t).form,.int .i64 (t).n,.bool (t).hid,.str (t).name,slD 2 encL (t).levels,slD 6 encT (t).kids]]))] := fun m hm => by
    rw [gd_tm (by omega)]
    exact fun _ _ => good_nil
  have c4 : ∀ m h,Gd m h → callFn (LX (cFk kT Try.prog)) m h [(D.agg [.int .i64 (t).form,.int .i64 (t).n,.bool (t).hid,.str (t).name,slD 2 encL (t).levels,slD 6 encT (t).kids])] (cFk kT Try.prog 27) = .ok (.int .i64 (checkT t.abs)) m h := rCheck t st
  rw [f5_eq]; unfold c5; rw [callFn_eq (by rfl)]
  obtain ⟨x,hx⟩ := bigE t st 7 [(0,(Ob.row 6 [.agg [.int .i64 (t).form,.int .i64 (t).n,.bool (t).hid,.str (t).name,slD 2 encL (t).levels,slD 6 encT (t).kids]]))] (hG 7 (by decide))
  cases x with
  | true =>
    simp (disch:=first|assumption|omega|(simp (disch:=first|assumption|omega) only [sB,Nat.reduceAdd,Nat.reduceLT,Nat.reduceLeDiff,Nat.reduceEqDiff,Nat.reduceMul,↓reduceIte];done)|fail) only [sA,↓reduceIte,Nat.reduceLT,Nat.reduceEqDiff,Nat.reduceAdd,Nat.reduceLeDiff,aliveV,hx,F0]
    exact ⟨_,_,rfl⟩
  | false =>
  by_cases hc : checkT t.abs = 0
  case neg =>
    simp (disch:=first|assumption|omega|(simp (disch:=first|assumption|omega) only [sB,Nat.reduceAdd,Nat.reduceLT,Nat.reduceLeDiff,Nat.reduceEqDiff,Nat.reduceMul,↓reduceIte,hG];done)|fail) only [sA,↓reduceIte,Nat.reduceLT,Nat.reduceEqDiff,Nat.reduceAdd,Nat.reduceLeDiff,aliveV,hx,F0,c4,hc,hG]
    exact ⟨_,_,rfl⟩
  obtain ⟨g1,g2,g3⟩ := good_pts hc
  have hsl := slim_of _ g1 wt
  have cP := tSpine t st hc hsl g1 g2 g3
  have cR := rSpine t g1 hsl g2
  obtain ⟨_,b2,b3,b4,b5,b6⟩ := spn_slim t hsl
  obtain ⟨⟨d1,d2⟩,d3⟩ := spn_size1 t g1 nt
  generalize spn t = S at cP cR b2 b3 b4 b5 b6 d1 d2 d3
  obtain ⟨hd,A,B⟩ := S
  replace b5 : A.length = B.length := b5
  replace b6 : A.length < sizeT t.abs := b6
  rw [encT_eq] at cP cR
  have b7 : A.length ≤ 20000 := by omega
  have cC := rClean hd d2
  have cE := exT (copyM hd) (by rw [copy_abs hd d1 (by have : sizeT hd.abs ≤ sizeT t.abs := b3; omega)]; exact size1_clean _ d2) (rcl hd) (by rw [rcl_abs,copy_abs hd d1 (by have : sizeT hd.abs ≤ sizeT t.abs := b3; omega)])
  rw [encT_eq (rcl hd)] at cC
  have hcp : ∀ x,x ∈ A → (copyM x).abs = cleanT x.abs := fun x hx => copy_abs x (d3 x hx).1 (by have := (b2 x hx).2.1; omega)
  have hmap : ∀ (j : Nat) (hj : j < (A.map copyM).length) (hj' : j < A.length),(A.map copyM)[j].abs = cleanT A[j].abs := fun j hj hj' => by
    rw [List.getElem_map]
    exact hcp _ (List.getElem_mem _)
  have cS := sSame (Sl.app (A.map copyM)) (Sl.made A) (by show (A.map copyM).length = A.length; rw [List.length_map]) (by show (A.map copyM).length ≤ _; rw [List.length_map]; omega)
    (fun i hi hi' => hmap i hi hi')
    (fun x hx => by
      obtain ⟨y,hy,rfl⟩ := List.mem_map.1 hx
      rw [hcp y hy]
      exact size1_clean _ (d3 y hy).2)
    (fun x hx => (d3 x hx).2)
  have dl : decide (((B.length : Nat) : Int) = ((B.length : Nat) : Int)) = true := decide_eq_true rfl
  have l1 : (Sl.made B).el.length = B.length := rfl
  simp (disch:=first|assumption|omega|(simp (disch:=first|assumption|omega) only [sB,Nat.reduceAdd,Nat.reduceLT,Nat.reduceLeDiff,Nat.reduceEqDiff,Nat.reduceMul,↓reduceIte,hG,gd_tm];done)|fail) only [sA,↓reduceIte,Nat.reduceLT,Nat.reduceEqDiff,Nat.reduceAdd,Nat.reduceLeDiff,aliveV,hx,F0,c4,hc,cP,cR,l1,dl,hG,gd_tm]
  have hG3 : ∀ m,39 ≤ m → Gd m [(38,(Ob.row 6 [.agg [.int .i64 (hd).form,.int .i64 (hd).n,.bool (hd).hid,.str (hd).name,slD 2 encL (hd).levels,slD 6 encT (hd).kids]])),(27,(Ob.row 6 [.agg [.int .i64 (copyM hd).form,.int .i64 (copyM hd).n,.bool (copyM hd).hid,.str (copyM hd).name,slD 2 encL (copyM hd).levels,slD 6 encT (copyM hd).kids]])),(0,(Ob.row 6 [.agg [.int .i64 (t).form,.int .i64 (t).n,.bool (t).hid,.str (t).name,slD 2 encL (t).levels,slD 6 encT (t).kids]]))] := fun m hm => by
    rw [gd_tm (by omega),gd_tm (by omega),gd_tm (by omega)]
    exact fun _ _ => good_nil
  have hky : ∀ m,39 ≤ m → keysFrom m [(38,(Ob.row 6 [.agg [.int .i64 (hd).form,.int .i64 (hd).n,.bool (hd).hid,.str (hd).name,slD 2 encL (hd).levels,slD 6 encT (hd).kids]])),(27,(Ob.row 6 [.agg [.int .i64 (copyM hd).form,.int .i64 (copyM hd).n,.bool (copyM hd).hid,.str (copyM hd).name,slD 2 encL (copyM hd).levels,slD 6 encT (copyM hd).kids]])),(0,(Ob.row 6 [.agg [.int .i64 (t).form,.int .i64 (t).n,.bool (t).hid,.str (t).name,slD 2 encL (t).levels,slD 6 encT (t).kids]]))] = [] := fun m hm => keys_gd (hG3 m hm)
  have hbb : ∀ b : Bool,(b == b) = true := fun b => beq_self_eq_true b
  generalize hr : LX (cFk kT Try.prog) (.loop l5_0) _ _ _ = R
  obtain ⟨z,ez,nz,G,rfl,rfl,p1,rfl,q5,q6,q8,q9⟩ := loop_up hr B.length
    (fun i e n' G => 48 ≤ n' ∧ G = [(38,(Ob.row 6 [.agg [.int .i64 (hd).form,.int .i64 (hd).n,.bool (hd).hid,.str (hd).name,slD 2 encL (hd).levels,slD 6 encT (hd).kids]])),(27,(Ob.row 6 [.agg [.int .i64 (copyM hd).form,.int .i64 (copyM hd).n,.bool (copyM hd).hid,.str (copyM hd).name,slD 2 encL (copyM hd).levels,slD 6 encT (copyM hd).kids]])),(0,(Ob.row 6 [.agg [.int .i64 (t).form,.int .i64 (t).n,.bool (t).hid,.str (t).name,slD 2 encL (t).levels,slD 6 encT (t).kids]]))] ∧ get (po 5) e = .ptr 27 0 0 ∧ get (po 6) e = slD 6 encT (Sl.app (A.map copyM)) ∧ get (po 7) e = slD 1 encB (Sl.app B) ∧ get (po 8) e = .ptr 38 0 0 ∧ get (po 9) e = slD 6 encT (Sl.made A) ∧ get (po 10) e = slD 1 encB (Sl.made B) ∧ get (po 11) e = .int .i64 (i : Nat))
    (fun z e n' G => z = .exit 0 ∧ 48 ≤ n' ∧ G = [(38,(Ob.row 6 [.agg [.int .i64 (hd).form,.int .i64 (hd).n,.bool (hd).hid,.str (hd).name,slD 2 encL (hd).levels,slD 6 encT (hd).kids]])),(27,(Ob.row 6 [.agg [.int .i64 (copyM hd).form,.int .i64 (copyM hd).n,.bool (copyM hd).hid,.str (copyM hd).name,slD 2 encL (copyM hd).levels,slD 6 encT (copyM hd).kids]])),(0,(Ob.row 6 [.agg [.int .i64 (t).form,.int .i64 (t).n,.bool (t).hid,.str (t).name,slD 2 encL (t).levels,slD 6 encT (t).kids]]))] ∧ get (po 5) e = .ptr 27 0 0 ∧ get (po 6) e = slD 6 encT (Sl.app (A.map copyM)) ∧ get (po 8) e = .ptr 38 0 0 ∧ get (po 9) e = slD 6 encT (Sl.made A))
    (by
      rintro e n' G ⟨p1,rfl,q5,q6,q7,q8,q9,q10,q11⟩
      unfold l5_0
      simp (disch:=first|assumption|omega|(simp (disch:=first|assumption|omega) only [sB,Nat.reduceAdd,Nat.reduceLT,Nat.reduceLeDiff,Nat.reduceEqDiff,Nat.reduceMul,↓reduceIte];done)|fail) only [sA,↓reduceIte,Nat.reduceLT,Nat.reduceEqDiff,Nat.reduceAdd,Nat.reduceLeDiff,q10,q11,l1]
      exact ⟨_,_,_,_,rfl,by simp,rfl,by omega,rfl,by simp (disch:=first|assumption|omega|(simp (disch:=first|assumption|omega) only [sB,Nat.reduceAdd,Nat.reduceLT,Nat.reduceLeDiff,Nat.reduceEqDiff,Nat.reduceMul,↓reduceIte];done)|fail) only [sA,↓reduceIte,Nat.reduceLT,Nat.reduceEqDiff,Nat.reduceAdd,Nat.reduceLeDiff,q5],by simp (disch:=first|assumption|omega|(simp (disch:=first|assumption|omega) only [sB,Nat.reduceAdd,Nat.reduceLT,Nat.reduceLeDiff,Nat.reduceEqDiff,Nat.reduceMul,↓reduceIte];done)|fail) only [sA,↓reduceIte,Nat.reduceLT,Nat.reduceEqDiff,Nat.reduceAdd,Nat.reduceLeDiff,q6],by simp (disch:=first|assumption|omega|(simp (disch:=first|assumption|omega) only [sB,Nat.reduceAdd,Nat.reduceLT,Nat.reduceLeDiff,Nat.reduceEqDiff,Nat.reduceMul,↓reduceIte];done)|fail) only [sA,↓reduceIte,Nat.reduceLT,Nat.reduceEqDiff,Nat.reduceAdd,Nat.reduceLeDiff,q8],by simp (disch:=first|assumption|omega|(simp (disch:=first|assumption|omega) only [sB,Nat.reduceAdd,Nat.reduceLT,Nat.reduceLeDiff,Nat.reduceEqDiff,Nat.reduceMul,↓reduceIte];done)|fail) only [sA,↓reduceIte,Nat.reduceLT,Nat.reduceEqDiff,Nat.reduceAdd,Nat.reduceLeDiff,q9]⟩)
    (by
      rintro i e n' G hi ⟨p1,rfl,q5,q6,q7,q8,q9,q10,q11⟩
      have hi1 : i < (Sl.made B).el.length := hi
      have hi2 : i < (Sl.app B).el.length := hi
      have e1 : ∀ hh,encB ((Sl.made B).el[i]'hh) = .bool B[i] := fun hh => rfl
      have e2 : ∀ hh,encB ((Sl.app B).el[i]'hh) = .bool B[i] := fun hh => rfl
      have e3 : encB B[i] = .bool B[i] := rfl
      unfold l5_0
      simp (disch:=first|assumption|omega|(simp (disch:=first|assumption|omega) only [sB,Nat.reduceAdd,Nat.reduceLT,Nat.reduceLeDiff,Nat.reduceEqDiff,Nat.reduceMul,↓reduceIte,hi1,hi2];done)|fail) only [sA,↓reduceIte,Nat.reduceLT,Nat.reduceEqDiff,Nat.reduceAdd,Nat.reduceLeDiff,q7,q10,q11,l1,encB,made_el,hbb,hky,hi1,hi2]
      exact ⟨_,_,_,_,rfl,.inl ⟨rfl,by omega,rfl,by simp (disch:=first|assumption|omega|(simp (disch:=first|assumption|omega) only [sB,Nat.reduceAdd,Nat.reduceLT,Nat.reduceLeDiff,Nat.reduceEqDiff,Nat.reduceMul,↓reduceIte];done)|fail) only [sA,↓reduceIte,Nat.reduceLT,Nat.reduceEqDiff,Nat.reduceAdd,Nat.reduceLeDiff,q5],by simp (disch:=first|assumption|omega|(simp (disch:=first|assumption|omega) only [sB,Nat.reduceAdd,Nat.reduceLT,Nat.reduceLeDiff,Nat.reduceEqDiff,Nat.reduceMul,↓reduceIte];done)|fail) only [sA,↓reduceIte,Nat.reduceLT,Nat.reduceEqDiff,Nat.reduceAdd,Nat.reduceLeDiff,q6],by simp (disch:=first|assumption|omega|(simp (disch:=first|assumption|omega) only [sB,Nat.reduceAdd,Nat.reduceLT,Nat.reduceLeDiff,Nat.reduceEqDiff,Nat.reduceMul,↓reduceIte];done)|fail) only [sA,↓reduceIte,Nat.reduceLT,Nat.reduceEqDiff,Nat.reduceAdd,Nat.reduceLeDiff,q7],by simp (disch:=first|assumption|omega|(simp (disch:=first|assumption|omega) only [sB,Nat.reduceAdd,Nat.reduceLT,Nat.reduceLeDiff,Nat.reduceEqDiff,Nat.reduceMul,↓reduceIte];done)|fail) only [sA,↓reduceIte,Nat.reduceLT,Nat.reduceEqDiff,Nat.reduceAdd,Nat.reduceLeDiff,q8],by simp (disch:=first|assumption|omega|(simp (disch:=first|assumption|omega) only [sB,Nat.reduceAdd,Nat.reduceLT,Nat.reduceLeDiff,Nat.reduceEqDiff,Nat.reduceMul,↓reduceIte];done)|fail) only [sA,↓reduceIte,Nat.reduceLT,Nat.reduceEqDiff,Nat.reduceAdd,Nat.reduceLeDiff,q9],by simp (disch:=first|assumption|omega|(simp (disch:=first|assumption|omega) only [sB,Nat.reduceAdd,Nat.reduceLT,Nat.reduceLeDiff,Nat.reduceEqDiff,Nat.reduceMul,↓reduceIte];done)|fail) only [sA,↓reduceIte,Nat.reduceLT,Nat.reduceEqDiff,Nat.reduceAdd,Nat.reduceLeDiff,q10],by simp (disch:=first|assumption|omega|(simp (disch:=first|assumption|omega) only [sB,Nat.reduceAdd,Nat.reduceLT,Nat.reduceLeDiff,Nat.reduceEqDiff,Nat.reduceMul,↓reduceIte];done)|fail) only [sA,↓reduceIte,Nat.reduceLT,Nat.reduceEqDiff,Nat.reduceAdd,Nat.reduceLeDiff]⟩⟩)
    ⟨by omega,rfl,by simp (disch:=first|assumption|omega|(simp (disch:=first|assumption|omega) only [sB,Nat.reduceAdd,Nat.reduceLT,Nat.reduceLeDiff,Nat.reduceEqDiff,Nat.reduceMul,↓reduceIte];done)|fail) only [sA,↓reduceIte,Nat.reduceLT,Nat.reduceEqDiff,Nat.reduceAdd,Nat.reduceLeDiff],by simp (disch:=first|assumption|omega|(simp (disch:=first|assumption|omega) only [sB,Nat.reduceAdd,Nat.reduceLT,Nat.reduceLeDiff,Nat.reduceEqDiff,Nat.reduceMul,↓reduceIte];done)|fail) only [sA,↓reduceIte,Nat.reduceLT,Nat.reduceEqDiff,Nat.reduceAdd,Nat.reduceLeDiff],by simp (disch:=first|assumption|omega|(simp (disch:=first|assumption|omega) only [sB,Nat.reduceAdd,Nat.reduceLT,Nat.reduceLeDiff,Nat.reduceEqDiff,Nat.reduceMul,↓reduceIte];done)|fail) only [sA,↓reduceIte,Nat.reduceLT,Nat.reduceEqDiff,Nat.reduceAdd,Nat.reduceLeDiff],by simp (disch:=first|assumption|omega|(simp (disch:=first|assumption|omega) only [sB,Nat.reduceAdd,Nat.reduceLT,Nat.reduceLeDiff,Nat.reduceEqDiff,Nat.reduceMul,↓reduceIte];done)|fail) only [sA,↓reduceIte,Nat.reduceLT,Nat.reduceEqDiff,Nat.reduceAdd,Nat.reduceLeDiff],by simp (disch:=first|assumption|omega|(simp (disch:=first|assumption|omega) only [sB,Nat.reduceAdd,Nat.reduceLT,Nat.reduceLeDiff,Nat.reduceEqDiff,Nat.reduceMul,↓reduceIte];done)|fail) only [sA,↓reduceIte,Nat.reduceLT,Nat.reduceEqDiff,Nat.reduceAdd,Nat.reduceLeDiff],by simp (disch:=first|assumption|omega|(simp (disch:=first|assumption|omega) only [sB,Nat.reduceAdd,Nat.reduceLT,Nat.reduceLeDiff,Nat.reduceEqDiff,Nat.reduceMul,↓reduceIte];done)|fail) only [sA,↓reduceIte,Nat.reduceLT,Nat.reduceEqDiff,Nat.reduceAdd,Nat.reduceLeDiff],by simp (disch:=first|assumption|omega|(simp (disch:=first|assumption|omega) only [sB,Nat.reduceAdd,Nat.reduceLT,Nat.reduceLeDiff,Nat.reduceEqDiff,Nat.reduceMul,↓reduceIte];done)|fail) only [sA,↓reduceIte,Nat.reduceLT,Nat.reduceEqDiff,Nat.reduceAdd,Nat.reduceLeDiff]⟩
  simp (disch:=first|assumption|omega|(simp (disch:=first|assumption|omega) only [sB,Nat.reduceAdd,Nat.reduceLT,Nat.reduceLeDiff,Nat.reduceEqDiff,Nat.reduceMul,↓reduceIte,hG3,gd_nil];done)|fail) only [sA,↓reduceIte,Nat.reduceLT,Nat.reduceEqDiff,Nat.reduceAdd,Nat.reduceLeDiff,q5,q6,q8,q9,cC,cE,cS,hky,F0,hG3,gd_nil]
  exact ⟨_,_,rfl⟩
end Go.Proofs.Ytdijijblccmfbaa

/- TeleSpine: what stands at the head of a row,and its arguments. Condition: what is handed in is of bulk at most 1048576. -/
namespace Go.Proofs.Ytdijijblccmfbaa
open Go Go.ChangeShapes Go.WideShapes Go.ChangeAt Go.RowKit

set_option maxRecDepth 100000 in
theorem sp_lifted (os : Os) (started : os.Started) (H : Type) (enc : TypeId × Value → H) (F : Stop.Interp) :
    ReturnsInHanded {} Try.checked os 5 .any ((Rows.OpenSpec.upto Rows.teleSpineSpec).pre6 enc Try.prog Try.f5 Rows.teleSpineUptoRow.domain false) (((Rows.OpenSpec.upto Rows.teleSpineSpec).at F).post enc Try.prog Try.f5 false true false false) := by
  refine law_cond (K := kT) (C := Try.checked) (s := Rows.OpenSpec.upto Rows.teleSpineSpec) (k := Rows.uptoSmall) (tb := 4) rfl own started (by kernel_rfl) Try.func5
    (OpenSpec.witness (enc := enc) (C := Try.checked) (s := Rows.OpenSpec.upto Rows.teleSpineSpec) (k := Rows.uptoSmall) rfl false ⟨#[],#[.agg #[.int .i64 0,.int .i64 0,.bool false,.string ByteArray.empty,.slice none 0 0,.slice none 0 0]],[]⟩ 8 (by kernel_rfl) (by kernel_rfl) (by kernel_rfl)
      (x := ([.agg [.lit (.int .i64 0),.lit (.int .i64 0),.lit (.bool false),.lit (.string []),.nil,.nil]],[],[])) (by kernel_rfl) rfl (by kernel_rfl))
    mixed laidOut rowed_maps full_slices (by kernel_rfl) rfl (by kernel_rfl) rfl rfl ?_ ?_
  · intro ds hl
    match ds,hl with
    | [_],_ => rfl
  · intro ds gs l hk hA
    have hA : ArgsAre Try.prog [25] ds l := hA
    have hb : Rows.uptoBulkAll (ds ++ gs) ≤ 1048576 := of_decide_eq_true hk
    obtain ⟨x,xs,f1,l1,rfl,rfl,h1,hA⟩ := args_cons hA
    obtain ⟨rfl,rfl⟩ := args_nil hA
    rw [List.cons_append,bulk_cons] at hb
    obtain ⟨a,e1,sa,wa⟩ := tmd_arg _ _ h1
    rw [e1,encT_eq]
    exact sp_run a sa (wa (by omega)).1 (wa (by omega)).2

theorem TeleSpineUpto_holds : Rows.TeleSpineUptoSaid :=
  OpenClaim.holds_of_cond 5 Try.f5 rfl rfl rfl rfl rfl rfl rfl ⟨rfl,rfl,rfl,rfl,rfl⟩ rfl rfl rfl rfl rfl (by kernel_rfl) Try.func5 (by kernel_rfl)
    (of_decide_eq_true (by kernel_rfl)) (by unfold Func.isWrapper; first | (rw [if_pos (by decide +kernel)]; kernel_rfl) | (rw [if_neg (by decide +kernel)]; exact ⟨rfl,rfl⟩))
    (fun os started H enc _ F => sp_lifted os started H enc F)
end Go.Proofs.Ytdijijblccmfbaa
