/- TeleBack: what is put around a term is split off again, and what a function is applied to is its row. Condition: what is handed in is of bulk at most 1048576. -/
import Derived.Test.YtdijijblccmfbaaYTXF
import Derived.Test.YtdijijblccmfbaaYTMC
import Derived.Test.YtdijijblccmfbaaYTJ
import Derived.Test.YtdijijblccmfbaaYTMD
import Derived.Test.YtdijijblccmfbaaYTXD
import Derived.Test.YtdijijblccmfbaaYTK
import Derived.Test.YtdijijblccmfbaaYTT4
import Derived.Test.YtdijijblccmfbaaYTR
import Derived.Test.YtdijijblccmfbaaA38
import Derived.Test.YtdijijblccmfbaaYCB1
/- The program's Spine,as it lies in package raw,where its result is kept. No condition but sizes. -/
set_option linter.unusedSimpArgs false
set_option linter.unusedVariables false
namespace Go.Proofs.Ytdijijblccmfbaa
open Go

set_option maxHeartbeats 8000000 in
theorem pSpineK (t : Tm) (ht : formedT t.abs = true) (hs : sizeT t.abs ≤ 100000) (n : Nat) (h : Hps) (hg : Gd n h) : ∃ m G dA dB,callFn (LX (cFk kT Try.prog)) n h [(D.agg [.int .i64 (t).form,.int .i64 (t).n,.bool (t).hid,.str (t).name,slD 2 encL (t).levels,slD 6 encT (t).kids])] (cFk kT Try.prog 71) = .ok (.tup [encT (spn t).1,dA,dB]) m G ∧ Hp n h m G ∧ Bld 6 encT (n + 2) (spn t).2.1 G dA ∧ Bld 1 encB (n + 2) (spn t).2.2 G dB := by
  have hgn := hg n (Nat.le_refl _)
  have H0 : Hp n h (n + 2) ((n + 1,(Ob.row 6 [.agg [.int .i64 0,.int .i64 0,.bool false,.str [],.nils,.nils]])) :: (n,(Ob.row 6 [.agg [.int .i64 (t).form,.int .i64 (t).n,.bool (t).hid,.str (t).name,slD 2 encL (t).levels,slD 6 encT (t).kids]])) :: h) := ((Hp.start hg).box (r := n) (m := n + 1) (Nat.le_refl _) (by omega) (flatTA t)).box (r := n + 1) (m := n + 2) (k := 6) (d := (D.agg [.int .i64 0,.int .i64 0,.bool false,.str [],.nils,.nils])) (by omega) (by omega) rfl
  rw [f71_eq]; unfold c71; rw [callFn_eqK (by rfl)]
  simp (disch:=first|assumption|omega|(simp (disch:=first|assumption|omega) only [sB,Nat.reduceAdd,Nat.reduceLT,Nat.reduceLeDiff,Nat.reduceEqDiff,Nat.reduceMul,↓reduceIte];done)|fail) only [sA,↓reduceIte,Nat.reduceLT,Nat.reduceEqDiff,Nat.reduceAdd,Nat.reduceLeDiff]
  generalize hr : LX (cFk kT Try.prog) (.loop l71_0) _ _ _ = R
  obtain ⟨x,ez,nz,G,rfl,rfl,Hz,p1,hd,A,B,dA,dB,BA,BB,z0,z1,hsp,hAl,hBl,q1,q2,q5,q6⟩ := loop_at hr
    (fun j e n' G => Hp n h n' G ∧ n + 2 ≤ n' ∧ ∃ (cur : Tm) (A : List Tm) (B : List Bool) (dA dB : D),sizeT cur.abs = j ∧ formedT cur.abs = true ∧ Bld 6 encT (n + 2) A G dA ∧ Bld 1 encB (n + 2) B G dB ∧ getO G n = (Ob.row 6 [.agg [.int .i64 (cur).form,.int .i64 (cur).n,.bool (cur).hid,.str (cur).name,slD 2 encL (cur).levels,slD 6 encT (cur).kids]]) ∧ getO G (n + 1) = (Ob.row 6 [.agg [.int .i64 0,.int .i64 0,.bool false,.str [],.nils,.nils]]) ∧
      spn t = ((spn cur).1,(spn cur).2.1 ++ A.reverse,(spn cur).2.2 ++ B.reverse) ∧ A.length + j ≤ sizeT t.abs ∧ B.length + j ≤ sizeT t.abs ∧ get (po 1) e = .ptr n 0 0 ∧ get (po 2) e = .ptr (n + 1) 0 0 ∧ get (po 5) e = dA ∧ get (po 6) e = dB)
    (fun x e n' G => x = .exit 0 ∧ Hp n h n' G ∧ n + 2 ≤ n' ∧ ∃ (hd : Tm) (A : List Tm) (B : List Bool) (dA dB : D),Bld 6 encT (n + 2) A G dA ∧ Bld 1 encB (n + 2) B G dB ∧ getO G n = (Ob.row 6 [.agg [.int .i64 (hd).form,.int .i64 (hd).n,.bool (hd).hid,.str (hd).name,slD 2 encL (hd).levels,slD 6 encT (hd).kids]]) ∧ getO G (n + 1) = (Ob.row 6 [.agg [.int .i64 0,.int .i64 0,.bool false,.str [],.nils,.nils]]) ∧
      spn t = (hd,A.reverse,B.reverse) ∧ A.length ≤ 100000 ∧ B.length ≤ 100000 ∧ get (po 1) e = .ptr n 0 0 ∧ get (po 2) e = .ptr (n + 1) 0 0 ∧ get (po 5) e = dA ∧ get (po 6) e = dB)
    (by
      rintro j e n' G ⟨H,p1,cur,A,B,dA,dB,hj,hcf,BA,BB,z0,z1,hsp,hAl,hBl,q1,q2,q5,q6⟩
      unfold l71_0
      by_cases hf : cur.form = 5
      · obtain ⟨k0,k1,hk,hk0,hsz⟩ := kids_two hf hcf
        obtain ⟨D1,K1,A1⟩ := app_bldz (b := 88) BA H (by omega) p1 (fun m x => low_flat (flatT x)) [k1] (by simp; omega)
        have a1 := fun m hm => (A1 m hm).1
        simp only [List.map_cons,List.map_nil,encT_eq k1] at a1
        obtain ⟨_,BA1,H1,kp1,_⟩ := A1 (n' + 6597069766659) (by omega)
        have hoAB := offA BA BB
        have BB1 : Bld 1 encB (n + 2) B (K1 (n' + 6597069766659)) dB := BB.keep (fun r e => by
          have hlt : r < n' := by
            rcases BB with ⟨_,e2⟩ | ⟨p,_,_,e2,gB⟩
            · rw [e2] at e; cases e
            · rw [e2] at e; injection e with _ e _ _ _
              rw [← e]; exact getO_low (H.good n' (Nat.le_refl _)) (by rw [gB]; exact fun h => by cases h)
          exact (kp1 r hlt (hoAB.1 r e)).1)
        have z01 : getO (K1 (n' + 6597069766659)) n = (Ob.row 6 [.agg [.int .i64 (cur).form,.int .i64 (cur).n,.bool (cur).hid,.str (cur).name,slD 2 encL (cur).levels,slD 6 encT (cur).kids]]) := by rw [(kp1 n (by omega) (BA.off' (by omega))).1]; exact z0
        have z11 : getO (K1 (n' + 6597069766659)) (n + 1) = (Ob.row 6 [.agg [.int .i64 0,.int .i64 0,.bool false,.str [],.nils,.nils]]) := by rw [(kp1 (n + 1) (by omega) (BA.off' (by omega))).1]; exact z1
        obtain ⟨D2,K2,A2⟩ := app_bldz (b := 1) BB1 H1 (by omega) (by omega) (fun m x => low_flat rfl) [cur.hid] (by simp; omega)
        have a2 := fun m hm => (A2 m hm).1
        simp only [List.map_cons,List.map_nil,encB] at a2
        have eK : slD 6 encT cur.kids = slD 6 encT cur.kids := rfl
        have i0 : 0 < cur.kids.el.length := by rw [hk]; simp
        have i1 : 1 < cur.kids.el.length := by rw [hk]; simp
        have e0 : ∀ hh,encT (cur.kids.el[0]'hh) = (D.agg [.int .i64 (k0).form,.int .i64 (k0).n,.bool (k0).hid,.str (k0).name,slD 2 encL (k0).levels,slD 6 encT (k0).kids]) := fun hh => by simp only [hk]; exact encT_eq _
        have e1 : ∀ hh,encT (cur.kids.el[1]'hh) = (D.agg [.int .i64 (k1).form,.int .i64 (k1).n,.bool (k1).hid,.str (k1).name,slD 2 encL (k1).levels,slD 6 encT (k1).kids]) := fun hh => by simp only [hk]; exact encT_eq _
        have hbA := BA.okD
        have hbB := BB.okD
        have hko : ∀ m,n' ≤ m → keysFrom m G = [] := fun m hm => keys_low (H.good m hm)
        rw [hf] at z0 z01
        have hmA : ∀ q,(q < n + 2 ∨ n' ≤ q) → memN q (refO dA) = false := fun q hq => by
          rcases BA with ⟨_,rfl⟩ | ⟨r,_,h2,rfl,gA⟩
          · rfl
          · have := getO_low (H.good n' (Nat.le_refl _)) (show getO G r ≠ .none by rw [gA]; exact fun h => by cases h)
            show memN q [r] = false
            rw [memN_cons,decide_eq_false (by omega)]; rfl
        obtain ⟨_,BB2,H2,kp2,_⟩ := A2 (n' + 12094627905539) (by omega)
        have hoAB1 := offA BA1 BB1
        have BA2 : Bld 6 encT (n + 2) (A ++ [k1]) (K2 (n' + 12094627905539)) (D1 (n' + 6597069766659)) := BA1.keep (fun r e => by
          have hlt : r < n' + 6597069766660 := by
            rcases BA1 with ⟨_,e2⟩ | ⟨p,_,_,e2,gA⟩
            · rw [e2] at e; cases e
            · rw [e2] at e; injection e with _ e _ _ _
              rw [← e]; exact getO_low (H1.good _ (Nat.le_refl _)) (by rw [gA]; exact fun h => by cases h)
          exact (kp2 r hlt (hoAB1.2 r e)).1)
        have z02 : getO (K2 (n' + 12094627905539)) n = .row 6 [.agg [.int .i64 5,.int .i64 cur.n,.bool cur.hid,.str cur.name,slD 2 encL cur.levels,slD 6 encT cur.kids]] := by rw [(kp2 n (by omega) (BB1.off' (by omega))).1]; exact z01
        have z12 : getO (K2 (n' + 12094627905539)) (n + 1) = (Ob.row 6 [.agg [.int .i64 0,.int .i64 0,.bool false,.str [],.nils,.nils]]) := by rw [(kp2 (n + 1) (by omega) (BB1.off' (by omega))).1]; exact z11
        simp (disch:=first|assumption|omega|(simp (disch:=first|assumption|omega) only [sB,Nat.reduceAdd,Nat.reduceLT,Nat.reduceLeDiff,Nat.reduceEqDiff,Nat.reduceMul,↓reduceIte,i0,i1];done)|fail) only [sA,↓reduceIte,Nat.reduceLT,Nat.reduceEqDiff,Nat.reduceAdd,Nat.reduceLeDiff,q1,q2,q5,q6,z0,z01,z02,hf,e0,e1,a1,a2,hbA,hbB,hko,hmA,i0,i1]
        refine ⟨_,_,_,_,rfl,.inl ⟨rfl,sizeT k0.abs,by omega,(H2.set (r := n) (by omega) (fun k _ => lowO_one (low_flat (flatTA k0)))).mono (by omega),by omega,k0,A ++ [k1],B ++ [cur.hid],_,_,rfl,hk0,BA2.set z02 (by omega),BB2.set z02 (by omega),getO_set1 z02,getO_set2 z02 z12 (by omega),?_,by rw [List.length_append,List.length_singleton]; omega,by rw [List.length_append,List.length_singleton]; omega,by simp (disch:=first|assumption|omega|(simp (disch:=first|assumption|omega) only [sB,Nat.reduceAdd,Nat.reduceLT,Nat.reduceLeDiff,Nat.reduceEqDiff,Nat.reduceMul,↓reduceIte];done)|fail) only [sA,↓reduceIte,Nat.reduceLT,Nat.reduceEqDiff,Nat.reduceAdd,Nat.reduceLeDiff,q1],by simp (disch:=first|assumption|omega|(simp (disch:=first|assumption|omega) only [sB,Nat.reduceAdd,Nat.reduceLT,Nat.reduceLeDiff,Nat.reduceEqDiff,Nat.reduceMul,↓reduceIte];done)|fail) only [sA,↓reduceIte,Nat.reduceLT,Nat.reduceEqDiff,Nat.reduceAdd,Nat.reduceLeDiff,q2],by simp (disch:=first|assumption|omega|(simp (disch:=first|assumption|omega) only [sB,Nat.reduceAdd,Nat.reduceLT,Nat.reduceLeDiff,Nat.reduceEqDiff,Nat.reduceMul,↓reduceIte];done)|fail) only [sA,↓reduceIte,Nat.reduceLT,Nat.reduceEqDiff,Nat.reduceAdd,Nat.reduceLeDiff],by simp (disch:=first|assumption|omega|(simp (disch:=first|assumption|omega) only [sB,Nat.reduceAdd,Nat.reduceLT,Nat.reduceLeDiff,Nat.reduceEqDiff,Nat.reduceMul,↓reduceIte];done)|fail) only [sA,↓reduceIte,Nat.reduceLT,Nat.reduceEqDiff,Nat.reduceAdd,Nat.reduceLeDiff]⟩⟩
        rw [hsp,spn_app hf hk,List.reverse_append,List.reverse_append]
        simp
      · simp (disch:=first|assumption|omega|(simp (disch:=first|assumption|omega) only [sB,Nat.reduceAdd,Nat.reduceLT,Nat.reduceLeDiff,Nat.reduceEqDiff,Nat.reduceMul,↓reduceIte];done)|fail) only [sA,↓reduceIte,Nat.reduceLT,Nat.reduceEqDiff,Nat.reduceAdd,Nat.reduceLeDiff,q1,z0,hf]
        rw [spn_head hf] at hsp
        exact ⟨_,_,_,_,rfl,.inr ⟨by simp,rfl,H.mono (by omega),by omega,cur,A,B,dA,dB,BA,BB,z0,z1,by simpa using hsp,by omega,by omega,by simp (disch:=first|assumption|omega|(simp (disch:=first|assumption|omega) only [sB,Nat.reduceAdd,Nat.reduceLT,Nat.reduceLeDiff,Nat.reduceEqDiff,Nat.reduceMul,↓reduceIte];done)|fail) only [sA,↓reduceIte,Nat.reduceLT,Nat.reduceEqDiff,Nat.reduceAdd,Nat.reduceLeDiff,q1],by simp (disch:=first|assumption|omega|(simp (disch:=first|assumption|omega) only [sB,Nat.reduceAdd,Nat.reduceLT,Nat.reduceLeDiff,Nat.reduceEqDiff,Nat.reduceMul,↓reduceIte];done)|fail) only [sA,↓reduceIte,Nat.reduceLT,Nat.reduceEqDiff,Nat.reduceAdd,Nat.reduceLeDiff,q2],by simp (disch:=first|assumption|omega|(simp (disch:=first|assumption|omega) only [sB,Nat.reduceAdd,Nat.reduceLT,Nat.reduceLeDiff,Nat.reduceEqDiff,Nat.reduceMul,↓reduceIte];done)|fail) only [sA,↓reduceIte,Nat.reduceLT,Nat.reduceEqDiff,Nat.reduceAdd,Nat.reduceLeDiff,q5],by simp (disch:=first|assumption|omega|(simp (disch:=first|assumption|omega) only [sB,Nat.reduceAdd,Nat.reduceLT,Nat.reduceLeDiff,Nat.reduceEqDiff,Nat.reduceMul,↓reduceIte];done)|fail) only [sA,↓reduceIte,Nat.reduceLT,Nat.reduceEqDiff,Nat.reduceAdd,Nat.reduceLeDiff,q6]⟩⟩)
    (sizeT t.abs) ⟨H0.mono (by omega),by omega,t,[],[],.nils,.nils,rfl,ht,.inl ⟨rfl,rfl⟩,.inl ⟨rfl,rfl⟩,by rw [getO_tl (by omega),getO_hd],getO_hd,by simp,by simp,by simp,by simp (disch:=first|assumption|omega|(simp (disch:=first|assumption|omega) only [sB,Nat.reduceAdd,Nat.reduceLT,Nat.reduceLeDiff,Nat.reduceEqDiff,Nat.reduceMul,↓reduceIte];done)|fail) only [sA,↓reduceIte,Nat.reduceLT,Nat.reduceEqDiff,Nat.reduceAdd,Nat.reduceLeDiff],by simp (disch:=first|assumption|omega|(simp (disch:=first|assumption|omega) only [sB,Nat.reduceAdd,Nat.reduceLT,Nat.reduceLeDiff,Nat.reduceEqDiff,Nat.reduceMul,↓reduceIte];done)|fail) only [sA,↓reduceIte,Nat.reduceLT,Nat.reduceEqDiff,Nat.reduceAdd,Nat.reduceLeDiff],by simp (disch:=first|assumption|omega|(simp (disch:=first|assumption|omega) only [sB,Nat.reduceAdd,Nat.reduceLT,Nat.reduceLeDiff,Nat.reduceEqDiff,Nat.reduceMul,↓reduceIte];done)|fail) only [sA,↓reduceIte,Nat.reduceLT,Nat.reduceEqDiff,Nat.reduceAdd,Nat.reduceLeDiff],by simp (disch:=first|assumption|omega|(simp (disch:=first|assumption|omega) only [sB,Nat.reduceAdd,Nat.reduceLT,Nat.reduceLeDiff,Nat.reduceEqDiff,Nat.reduceMul,↓reduceIte];done)|fail) only [sA,↓reduceIte,Nat.reduceLT,Nat.reduceEqDiff,Nat.reduceAdd,Nat.reduceLeDiff]⟩
  obtain ⟨G1,r1,BA1,H1,kp1⟩ := rev_bldA BA Hz (by omega) (by omega)
  have hoAB := offA BA BB
  have BB1 : Bld 1 encB (n + 2) B G1 dB := BB.keep (fun r e => kp1 r (hoAB.1 r e))
  obtain ⟨G2,r2,BB2,H2,kp2⟩ := rev_bldB BB1 H1 (by omega) (by omega)
  have hoAB1 := offA BA1 BB1
  have BA2 : Bld 6 encT (n + 2) A.reverse G2 dA := BA1.keep (fun r e => kp2 r (hoAB1.2 r e))
  have y0 : getO G2 n = (Ob.row 6 [.agg [.int .i64 (hd).form,.int .i64 (hd).n,.bool (hd).hid,.str (hd).name,slD 2 encL (hd).levels,slD 6 encT (hd).kids]]) := by rw [kp2 n (BB1.off' (by omega)),kp1 n (BA.off' (by omega))]; exact z0
  have y1 : getO G2 (n + 1) = (Ob.row 6 [.agg [.int .i64 0,.int .i64 0,.bool false,.str [],.nils,.nils]]) := by rw [kp2 (n + 1) (BB1.off' (by omega)),kp1 (n + 1) (BA.off' (by omega))]; exact z1
  have w : ∀ X,getO (setO G2 (n + 1) X) (n + 1) = X := fun X => getO_setO_same (by rw [y1]; simp)
  have hA2 := BA2.okD
  have hB2 := BB2.okD
  rw [hsp]
  have HH : Hp n h (nz + 12) (setO G2 (n + 1) (Ob.row 6 [.agg [.int .i64 (hd).form,.int .i64 (hd).n,.bool (hd).hid,.str (hd).name,slD 2 encL (hd).levels,slD 6 encT (hd).kids]])) := (H2.set (r := n + 1) (by omega) (fun k _ => lowO_one (low_flat (flatTA hd)))).mono (by omega)
  rw [encT_eq]
  simp (disch:=first|assumption|omega|(simp (disch:=first|assumption|omega) only [sB,Nat.reduceAdd,Nat.reduceLT,Nat.reduceLeDiff,Nat.reduceEqDiff,Nat.reduceMul,↓reduceIte];done)|fail) only [sA,↓reduceIte,Nat.reduceLT,Nat.reduceEqDiff,Nat.reduceAdd,Nat.reduceLeDiff,q1,q2,q5,q6,r1,r2,y0,y1,w,hA2,hB2,finK_ret,finKL_ok]
  exact ⟨_,_,_,_,rfl,HH,BA2.set y1 (by omega),BB2.set y1 (by omega)⟩
end Go.Proofs.Ytdijijblccmfbaa

/- The program's Spine of terms. No condition but sizes. -/
namespace Go.Proofs.Ytdijijblccmfbaa
open Go

def copyM (t : Tm) : Tm := (runM gC t 0 1099511627776).1
theorem spn_slim : ∀ t : Tm,slimT t.abs = true → slimT (spn t).1.abs = true ∧ (∀ x,x ∈ (spn t).2.1 → slimT x.abs = true ∧ sizeT x.abs ≤ sizeT t.abs ∧ highT x.abs ≤ highT t.abs) ∧ sizeT (spn t).1.abs ≤ sizeT t.abs ∧ highT (spn t).1.abs ≤ highT t.abs ∧ (spn t).2.1.length = (spn t).2.2.length ∧ (spn t).2.1.length < sizeT t.abs := by
  refine Tm.ind ?_
  intro t ih hs
  have hp := sizeT_pos t.abs
  by_cases hf : t.form = 5 ∧ ∃ k0 k1 ks,t.kids.el = k0 :: k1 :: ks
  · obtain ⟨h5,k0,k1,ks,hk⟩ := hf
    have m0 : k0 ∈ t.kids.el := by rw [hk]; simp
    have m1 : k1 ∈ t.kids.el := by rw [hk]; simp
    have hsk := (slim_tm hs).2.2.2
    have e : spn t = ((spn k0).1,(spn k0).2.1 ++ [k1],(spn k0).2.2 ++ [t.hid]) := by
      cases t with
      | mk f n hd nm ls nl fl kk sp =>
        have hk' : kk = k0 :: k1 :: ks := hk
        have hf' : f = 5 := h5
        subst hk' hf'
        rw [spn,if_pos rfl]; rfl
    obtain ⟨a1,a2,a3,a4,a5,a6⟩ := ih k0 m0 (hsk k0 m0)
    have s0 := size_kid m0
    have s1 := size_kid m1
    have t0 := high_kid m0
    have t1 := high_kid m1
    have ss : sizeT k0.abs + sizeT k1.abs < sizeT t.abs := by
      have := size_abs t
      rw [hk,List.map_cons,List.map_cons,sizeTs_cons,sizeTs_cons] at this
      omega
    have := sizeT_pos k1.abs
    rw [e]
    refine ⟨a1,fun x hx => ?_,by show sizeT (spn k0).1.abs ≤ _; omega,by show highT (spn k0).1.abs ≤ _; omega,by simp [a5],by show ((spn k0).2.1 ++ [k1]).length < _; rw [List.length_append,List.length_singleton]; omega⟩
    rcases List.mem_append.1 hx with hx | hx
    · obtain ⟨b1,b2,b3⟩ := a2 x hx
      exact ⟨b1,by omega,by omega⟩
    · rw [List.mem_singleton.1 hx]
      exact ⟨hsk k1 m1,by omega,by omega⟩
  · have e : spn t = (t,[],[]) := by
      cases t with
      | mk f n hd nm ls nl fl kk sp =>
        match kk with
        | [] => simp [spn]
        | [k] => simp [spn]
        | k0 :: k1 :: ks =>
          rw [spn,if_neg (show ¬ f = 5 from fun h5 => hf ⟨h5,k0,k1,ks,rfl⟩)]
    rw [e]
    exact ⟨hs,fun x hx => (by cases hx),Nat.le_refl _,Nat.le_refl _,rfl,hp⟩
theorem take_setF {g : Tm → Tm} {l : List Tm} {i : Nat} (hi : i < l.length) : ((l.take i).map g ++ l.drop i).set i (g l[i]) = (l.take (i + 1)).map g ++ l.drop (i + 1) := by
  rw [List.set_append_right _ _ (by rw [List.length_map,List.length_take]; omega),List.length_map,List.length_take,Nat.min_eq_left (by omega),Nat.sub_self,List.drop_eq_getElem_cons hi,List.set_cons_zero,List.take_succ_eq_append_getElem hi,List.map_append,List.append_assoc]
  rfl
theorem Hp.chain {n0 n1 m : Nat} {h0 h1 G : Hps} (A : Hp n0 h0 n1 h1) (B : Hp n1 h1 m G) : Hp n0 h0 m G := by
  have h01 := A.le
  have h12 := B.le
  have hd : ∀ X : Hps,dropFrom n0 (dropFrom n1 X) = dropFrom n0 X := fun X => by
    induction X with
    | nil => rfl
    | cons x t ih =>
      obtain ⟨q,o⟩ := x
      by_cases e : q < n1
      · rw [drop_old e]
        by_cases e2 : q < n0
        · rw [drop_old e2,drop_old e2,ih]
        · rw [drop_new (by omega),drop_new (by omega),ih]
      · rw [drop_new (by omega),drop_new (by omega),ih]
  refine ⟨by omega,B.good,by rw [← hd,B.drop,A.drop],?_⟩
  rw [leak_iff]
  intro p hp hq
  have : p ∈ h1 := by rw [← B.drop]; exact mem_drop.2 ⟨hp,by omega⟩
  exact leak_iff.1 A.leak p this hq
set_option maxHeartbeats 8000000 in
set_option maxRecDepth 8000 in
theorem tSpine (t : Tm) (hs : saneT t.abs = true) (hc : checkT t.abs = 0) (hsl : slimT t.abs = true) (hfm : formedT t.abs = true) (hsz : sizeT t.abs ≤ 20000) (hh : highT t.abs ≤ 500) (n : Nat) (h : Hps) (hg : Gd n h) :
    callFn (LX (cFk kT Try.prog)) n h [(D.agg [.int .i64 (t).form,.int .i64 (t).n,.bool (t).hid,.str (t).name,slD 2 encL (t).levels,slD 6 encT (t).kids])] (cFk kT Try.prog 28) = .ok (.tup [encT (copyM (spn t).1),slD 6 encT (Sl.app ((spn t).2.1.map copyM)),slD 1 encB (Sl.app (spn t).2.2)]) n h := by
  have hgn := hg n (Nat.le_refl _)
  have hG : ∀ m,n ≤ m → Gd m h := fun m hm => Gd.mono hg hm
  have c1 : ∀ m h,Gd m h → callFn (LX (cFk kT Try.prog)) m h [(D.agg [.int .i64 (t).form,.int .i64 (t).n,.bool (t).hid,.str (t).name,slD 2 encL (t).levels,slD 6 encT (t).kids])] (cFk kT Try.prog 22) = .ok (.int .i64 (checkT t.abs)) m h := pCheck t hs
  have H0 : Hp n h (n + 2) ((n + 1,(Ob.row 6 [.agg [.int .i64 0,.int .i64 0,.bool false,.str [],.nils,.nils]])) :: (n,(Ob.row 6 [.agg [.int .i64 (t).form,.int .i64 (t).n,.bool (t).hid,.str (t).name,slD 2 encL (t).levels,slD 6 encT (t).kids]])) :: h) := ((Hp.start hg).box (r := n) (m := n + 1) (Nat.le_refl _) (by omega) (flatTA t)).box (r := n + 1) (m := n + 2) (k := 6) (d := (D.agg [.int .i64 0,.int .i64 0,.bool false,.str [],.nils,.nils])) (by omega) (by omega) rfl
  obtain ⟨p1,p2,p3,p4,p5,p6⟩ := spn_slim t hsl
  obtain ⟨m,G,dA,dB,e2,HG,BA,BB⟩ := pSpineK t hfm (by omega) (n + 10) _ (fun k hk => H0.good k (by omega))
  rw [encT_eq] at e2
  have HG2 := (H0.mono (show n + 2 ≤ n + 10 by omega)).chain HG
  have hnm := HG.le
  have z0 : getO G n = (Ob.row 6 [.agg [.int .i64 (t).form,.int .i64 (t).n,.bool (t).hid,.str (t).name,slD 2 encL (t).levels,slD 6 encT (t).kids]]) := by rw [HG.get (by omega),getO_tl (by omega),getO_hd]
  have z1 : getO G (n + 1) = (Ob.row 6 [.agg [.int .i64 0,.int .i64 0,.bool false,.str [],.nils,.nils]]) := by rw [HG.get (by omega),getO_hd]
  generalize spn t = S at p1 p2 p3 p4 p5 p6 e2 BA BB ⊢
  obtain ⟨hd,A,B⟩ := S
  replace BA : Bld 6 encT (n + 10 + 2) A G dA := BA
  replace BB : Bld 1 encB (n + 10 + 2) B G dB := BB
  replace p2 : ∀ x,x ∈ A → slimT x.abs = true ∧ sizeT x.abs ≤ sizeT t.abs ∧ highT x.abs ≤ highT t.abs := p2
  replace p1 : slimT hd.abs = true := p1
  replace p3 : sizeT hd.abs ≤ sizeT t.abs := p3
  replace p4 : highT hd.abs ≤ highT t.abs := p4
  replace p6 : A.length < sizeT t.abs := p6
  have hA := BA.okD
  have hB := BB.okD
  have hqm : ∀ q,dA = .ms 6 q 0 A.length false → q < m := fun q e => by
    rcases BA with ⟨_,e2⟩ | ⟨p,_,_,e2,gA⟩
    · rw [e2] at e; cases e
    · rw [e2] at e; injection e with _ e _ _ _
      rw [← e]; exact getO_low (HG.good m (Nat.le_refl _)) (by rw [gA]; exact fun h => by cases h)
  have hlen : ∀ m h,lenD m h .slice dA = .ok (.int .i64 (A.length : Nat)) m h := fun m h => by
    rcases BA with ⟨e0,e⟩ | ⟨q,_,hq,e,hg⟩
    · rw [e,e0]; rfl
    · rw [e]; rfl
  have H5 : Hp n h (m + 6) ((m + 5,(Ob.row 6 [.agg [.int .i64 (hd).form,.int .i64 (hd).n,.bool (hd).hid,.str (hd).name,slD 2 encL (hd).levels,slD 6 encT (hd).kids]])) :: G) := HG2.box (r := m + 5) (m := m + 6) (by omega) (by omega) (flatTA hd)
  have hGm := HG.good m (Nat.le_refl _)
  have BA5 : Bld 6 encT (n + 10 + 2) A ((m + 5,(Ob.row 6 [.agg [.int .i64 (hd).form,.int .i64 (hd).n,.bool (hd).hid,.str (hd).name,slD 2 encL (hd).levels,slD 6 encT (hd).kids]])) :: G) dA := BA.cons hGm (by omega)
  have BB5 : Bld 1 encB (n + 10 + 2) B ((m + 5,(Ob.row 6 [.agg [.int .i64 (hd).form,.int .i64 (hd).n,.bool (hd).hid,.str (hd).name,slD 2 encL (hd).levels,slD 6 encT (hd).kids]])) :: G) dB := BB.cons hGm (by omega)
  rw [f28_eq]; unfold c28; rw [callFn_eq (by rfl)]
  simp (disch:=first|assumption|omega|(simp (disch:=first|assumption|omega) only [sB,Nat.reduceAdd,Nat.reduceLT,Nat.reduceLeDiff,Nat.reduceEqDiff,Nat.reduceMul,↓reduceIte,hG,gd_tm,gd_zt];done)|fail) only [sA,↓reduceIte,Nat.reduceLT,Nat.reduceEqDiff,Nat.reduceAdd,Nat.reduceLeDiff,c1,hc,e2,hA,hB,hlen,hG,gd_tm,gd_zt]
  generalize hr : LX (cFk kT Try.prog) (.loop l28_0) _ _ _ = R
  obtain ⟨x,ez,nz,K,rfl,rfl,HK,q0,BAz,BBz,y5,y1,g2,g5,g6,g7⟩ := loop_up hr A.length
    (fun i e n' K => Hp n h n' K ∧ m + 6 ≤ n' ∧ Bld 6 encT (n + 10 + 2) ((A.take i).map copyM ++ A.drop i) K dA ∧ Bld 1 encB (n + 10 + 2) B K dB ∧ getO K (m + 5) = (Ob.row 6 [.agg [.int .i64 (hd).form,.int .i64 (hd).n,.bool (hd).hid,.str (hd).name,slD 2 encL (hd).levels,slD 6 encT (hd).kids]]) ∧ getO K (n + 1) = (Ob.row 6 [.agg [.int .i64 0,.int .i64 0,.bool false,.str [],.nils,.nils]]) ∧ get (po 2) e = .ptr (n + 1) 0 0 ∧ get (po 5) e = .ptr (m + 5) 0 0 ∧ get (po 6) e = dA ∧ get (po 7) e = dB ∧ get (po 20) e = dA ∧ get (po 21) e = .int .i64 (A.length : Nat) ∧ get (po 22) e = .int .i64 (i : Nat))
    (fun x e n' K => x = .exit 0 ∧ Hp n h n' K ∧ m + 6 ≤ n' ∧ Bld 6 encT (n + 10 + 2) (A.map copyM) K dA ∧ Bld 1 encB (n + 10 + 2) B K dB ∧ getO K (m + 5) = (Ob.row 6 [.agg [.int .i64 (hd).form,.int .i64 (hd).n,.bool (hd).hid,.str (hd).name,slD 2 encL (hd).levels,slD 6 encT (hd).kids]]) ∧ getO K (n + 1) = (Ob.row 6 [.agg [.int .i64 0,.int .i64 0,.bool false,.str [],.nils,.nils]]) ∧ get (po 2) e = .ptr (n + 1) 0 0 ∧ get (po 5) e = .ptr (m + 5) 0 0 ∧ get (po 6) e = dA ∧ get (po 7) e = dB)
    (by
      rintro e n' K ⟨H,q0,BA,BB,y5,y1,g2,g5,g6,g7,g20,g21,g22⟩
      rw [List.take_length,List.drop_length,List.append_nil] at BA
      unfold l28_0
      simp (disch:=first|assumption|omega|(simp (disch:=first|assumption|omega) only [sB,Nat.reduceAdd,Nat.reduceLT,Nat.reduceLeDiff,Nat.reduceEqDiff,Nat.reduceMul,↓reduceIte];done)|fail) only [sA,↓reduceIte,Nat.reduceLT,Nat.reduceEqDiff,Nat.reduceAdd,Nat.reduceLeDiff,g21,g22]
      exact ⟨_,_,_,_,rfl,by simp,rfl,H.mono (by omega),by omega,BA,BB,y5,y1,by simp (disch:=first|assumption|omega|(simp (disch:=first|assumption|omega) only [sB,Nat.reduceAdd,Nat.reduceLT,Nat.reduceLeDiff,Nat.reduceEqDiff,Nat.reduceMul,↓reduceIte];done)|fail) only [sA,↓reduceIte,Nat.reduceLT,Nat.reduceEqDiff,Nat.reduceAdd,Nat.reduceLeDiff,g2],by simp (disch:=first|assumption|omega|(simp (disch:=first|assumption|omega) only [sB,Nat.reduceAdd,Nat.reduceLT,Nat.reduceLeDiff,Nat.reduceEqDiff,Nat.reduceMul,↓reduceIte];done)|fail) only [sA,↓reduceIte,Nat.reduceLT,Nat.reduceEqDiff,Nat.reduceAdd,Nat.reduceLeDiff,g5],by simp (disch:=first|assumption|omega|(simp (disch:=first|assumption|omega) only [sB,Nat.reduceAdd,Nat.reduceLT,Nat.reduceLeDiff,Nat.reduceEqDiff,Nat.reduceMul,↓reduceIte];done)|fail) only [sA,↓reduceIte,Nat.reduceLT,Nat.reduceEqDiff,Nat.reduceAdd,Nat.reduceLeDiff,g6],by simp (disch:=first|assumption|omega|(simp (disch:=first|assumption|omega) only [sB,Nat.reduceAdd,Nat.reduceLT,Nat.reduceLeDiff,Nat.reduceEqDiff,Nat.reduceMul,↓reduceIte];done)|fail) only [sA,↓reduceIte,Nat.reduceLT,Nat.reduceEqDiff,Nat.reduceAdd,Nat.reduceLeDiff,g7]⟩)
    (by
      rintro i e n' K hi ⟨H,q0,BA,BB,y5,y1,g2,g5,g6,g7,g20,g21,g22⟩
      obtain ⟨L,hLe⟩ : ∃ L,(A.take i).map copyM ++ A.drop i = L := ⟨_,rfl⟩
      rw [hLe] at BA
      have hLl : L.length = A.length := by rw [← hLe,List.length_append,List.length_map,List.length_take,List.length_drop]; omega
      have hset : L.set i (copyM A[i]) = (A.take (i + 1)).map copyM ++ A.drop (i + 1) := by rw [← hLe]; exact take_setF hi
      have hil : i < L.length := by omega
      have hLi : L[i] = A[i] := by
        subst hLe
        rw [List.getElem_append_right (by rw [List.length_map,List.length_take]; omega)]
        simp only [List.length_map,List.length_take,List.getElem_drop]
        congr 1
        omega
      have hAB := offA BA BB
      obtain ⟨q,hq,ed,gq⟩ : ∃ q,n + 12 ≤ q ∧ dA = .ms 6 q 0 A.length false ∧ getO K q = .row 6 (L.map encT) := by
        rcases BA with ⟨e0,_⟩ | ⟨q,_,hq,e,hg⟩
        · rw [e0,List.length_nil] at hLl; omega
        · exact ⟨q,by omega,by rw [e,hLl],hg⟩
      have qlt : q < n' := getO_low (H.good n' (Nat.le_refl _)) (by rw [gq]; simp)
      have q5 := hqm q ed
      obtain ⟨s1,s2,s3⟩ := p2 A[i] (List.getElem_mem hi)
      have cC : ∀ m h,Gd m h → callFn (LX (cFk kT Try.prog)) m h [(D.agg [.int .i64 (A[i]).form,.int .i64 (A[i]).n,.bool (A[i]).hid,.str (A[i]).name,slD 2 encL (A[i]).levels,slD 6 encT (A[i]).kids])] (cFk kT Try.prog 59) = .ok (encT (copyM A[i])) m h := fun m h hg => pCopy m h hg A[i] s1 (by omega) (by omega)
      rw [encT_eq (copyM A[i])] at cC
      have e1 : encT L[i] = (D.agg [.int .i64 (A[i]).form,.int .i64 (A[i]).n,.bool (A[i]).hid,.str (A[i]).name,slD 2 encL (A[i]).levels,slD 6 encT (A[i]).kids]) := by rw [hLi,encT_eq]
      have eg : (L.map encT).getD i .junk = (D.agg [.int .i64 (A[i]).form,.int .i64 (A[i]).n,.bool (A[i]).hid,.str (A[i]).name,slD 2 encL (A[i]).levels,slD 6 encT (A[i]).kids]) := by rw [List.getD_eq_getElem?_getD,List.getElem?_map,List.getElem?_eq_getElem hil]; exact e1
      have gG : ∀ k,n' ≤ k → Gd k K := fun k hk j hj => H.good j (by omega)
      have gi : i < A.length := hi
      rw [ed] at g6 g20
      unfold l28_0
      simp (disch:=first|assumption|omega|(simp (disch:=first|assumption|omega) only [sB,Nat.reduceAdd,Nat.reduceLT,Nat.reduceLeDiff,Nat.reduceEqDiff,Nat.reduceMul,↓reduceIte,gi,hil,gG,gd_tm];done)|fail) only [sA,↓reduceIte,Nat.reduceLT,Nat.reduceEqDiff,Nat.reduceAdd,Nat.reduceLeDiff,g6,g20,g21,g22,gq,iaddr_ms,eg,store_tm,cC,gi,hil,gG,gd_tm]
      refine ⟨_,_,_,_,rfl,.inl ⟨rfl,((H.set (r := q) (by omega) (fun k hk => lowO_map (fun x => low_flat (flatT x)))).box (r := n' + 4) (m := n' + 5) (by omega) (by omega) (flatTA A[i])).mono (by omega),by omega,?_,?_,by rw [getO_tl (by omega)]; exact getO_set2 gq y5 (by omega),by rw [getO_tl (by omega)]; exact getO_set2 gq y1 (by omega),by simp (disch:=first|assumption|omega|(simp (disch:=first|assumption|omega) only [sB,Nat.reduceAdd,Nat.reduceLT,Nat.reduceLeDiff,Nat.reduceEqDiff,Nat.reduceMul,↓reduceIte];done)|fail) only [sA,↓reduceIte,Nat.reduceLT,Nat.reduceEqDiff,Nat.reduceAdd,Nat.reduceLeDiff,g2],by simp (disch:=first|assumption|omega|(simp (disch:=first|assumption|omega) only [sB,Nat.reduceAdd,Nat.reduceLT,Nat.reduceLeDiff,Nat.reduceEqDiff,Nat.reduceMul,↓reduceIte];done)|fail) only [sA,↓reduceIte,Nat.reduceLT,Nat.reduceEqDiff,Nat.reduceAdd,Nat.reduceLeDiff,g5],by simp (disch:=first|assumption|omega|(simp (disch:=first|assumption|omega) only [sB,Nat.reduceAdd,Nat.reduceLT,Nat.reduceLeDiff,Nat.reduceEqDiff,Nat.reduceMul,↓reduceIte];done)|fail) only [sA,↓reduceIte,Nat.reduceLT,Nat.reduceEqDiff,Nat.reduceAdd,Nat.reduceLeDiff,g6,ed],by simp (disch:=first|assumption|omega|(simp (disch:=first|assumption|omega) only [sB,Nat.reduceAdd,Nat.reduceLT,Nat.reduceLeDiff,Nat.reduceEqDiff,Nat.reduceMul,↓reduceIte];done)|fail) only [sA,↓reduceIte,Nat.reduceLT,Nat.reduceEqDiff,Nat.reduceAdd,Nat.reduceLeDiff,g7],by simp (disch:=first|assumption|omega|(simp (disch:=first|assumption|omega) only [sB,Nat.reduceAdd,Nat.reduceLT,Nat.reduceLeDiff,Nat.reduceEqDiff,Nat.reduceMul,↓reduceIte];done)|fail) only [sA,↓reduceIte,Nat.reduceLT,Nat.reduceEqDiff,Nat.reduceAdd,Nat.reduceLeDiff,g20,ed],by simp (disch:=first|assumption|omega|(simp (disch:=first|assumption|omega) only [sB,Nat.reduceAdd,Nat.reduceLT,Nat.reduceLeDiff,Nat.reduceEqDiff,Nat.reduceMul,↓reduceIte];done)|fail) only [sA,↓reduceIte,Nat.reduceLT,Nat.reduceEqDiff,Nat.reduceAdd,Nat.reduceLeDiff,g21],by simp (disch:=first|assumption|omega|(simp (disch:=first|assumption|omega) only [sB,Nat.reduceAdd,Nat.reduceLT,Nat.reduceLeDiff,Nat.reduceEqDiff,Nat.reduceMul,↓reduceIte];done)|fail) only [sA,↓reduceIte,Nat.reduceLT,Nat.reduceEqDiff,Nat.reduceAdd,Nat.reduceLeDiff]⟩⟩
      · rw [← hset,ed]
        refine .inr ⟨q,?_,hq,?_,by rw [getO_tl (by omega)]; exact getO_set1 gq⟩
        · intro e; have := congrArg List.length e; rw [List.length_set,List.length_nil] at this; omega
        · rw [List.length_set,hLl]
      · refine BB.keep (fun r e => ?_)
        have hlt : r < n' := by
          rcases BB with ⟨_,e2⟩ | ⟨p,_,_,e2,gB⟩
          · rw [e2] at e; cases e
          · rw [e2] at e; injection e with _ e _ _ _
            rw [← e]; exact getO_low (H.good n' (Nat.le_refl _)) (by rw [gB]; exact fun h => by cases h)
        have hne : r ≠ q := fun e3 => hAB.1 r e 6 0 A.length false (by rw [ed,e3])
        rw [getO_tl (by omega),getO_setO _ _ _ _ (by rw [gq]; simp),if_neg hne])
    ⟨H5.mono (by omega),by omega,by rw [List.take_zero,List.map_nil,List.nil_append,List.drop_zero]; exact BA5,BB5,getO_hd,by rw [getO_tl (by omega)]; exact z1,by simp (disch:=first|assumption|omega|(simp (disch:=first|assumption|omega) only [sB,Nat.reduceAdd,Nat.reduceLT,Nat.reduceLeDiff,Nat.reduceEqDiff,Nat.reduceMul,↓reduceIte];done)|fail) only [sA,↓reduceIte,Nat.reduceLT,Nat.reduceEqDiff,Nat.reduceAdd,Nat.reduceLeDiff],by simp (disch:=first|assumption|omega|(simp (disch:=first|assumption|omega) only [sB,Nat.reduceAdd,Nat.reduceLT,Nat.reduceLeDiff,Nat.reduceEqDiff,Nat.reduceMul,↓reduceIte];done)|fail) only [sA,↓reduceIte,Nat.reduceLT,Nat.reduceEqDiff,Nat.reduceAdd,Nat.reduceLeDiff],by simp (disch:=first|assumption|omega|(simp (disch:=first|assumption|omega) only [sB,Nat.reduceAdd,Nat.reduceLT,Nat.reduceLeDiff,Nat.reduceEqDiff,Nat.reduceMul,↓reduceIte];done)|fail) only [sA,↓reduceIte,Nat.reduceLT,Nat.reduceEqDiff,Nat.reduceAdd,Nat.reduceLeDiff],by simp (disch:=first|assumption|omega|(simp (disch:=first|assumption|omega) only [sB,Nat.reduceAdd,Nat.reduceLT,Nat.reduceLeDiff,Nat.reduceEqDiff,Nat.reduceMul,↓reduceIte];done)|fail) only [sA,↓reduceIte,Nat.reduceLT,Nat.reduceEqDiff,Nat.reduceAdd,Nat.reduceLeDiff],by simp (disch:=first|assumption|omega|(simp (disch:=first|assumption|omega) only [sB,Nat.reduceAdd,Nat.reduceLT,Nat.reduceLeDiff,Nat.reduceEqDiff,Nat.reduceMul,↓reduceIte];done)|fail) only [sA,↓reduceIte,Nat.reduceLT,Nat.reduceEqDiff,Nat.reduceAdd,Nat.reduceLeDiff],by simp (disch:=first|assumption|omega|(simp (disch:=first|assumption|omega) only [sB,Nat.reduceAdd,Nat.reduceLT,Nat.reduceLeDiff,Nat.reduceEqDiff,Nat.reduceMul,↓reduceIte];done)|fail) only [sA,↓reduceIte,Nat.reduceLT,Nat.reduceEqDiff,Nat.reduceAdd,Nat.reduceLeDiff],by simp (disch:=first|assumption|omega|(simp (disch:=first|assumption|omega) only [sB,Nat.reduceAdd,Nat.reduceLT,Nat.reduceLeDiff,Nat.reduceEqDiff,Nat.reduceMul,↓reduceIte];done)|fail) only [sA,↓reduceIte,Nat.reduceLT,Nat.reduceEqDiff,Nat.reduceAdd,Nat.reduceLeDiff]⟩
  have cC : ∀ m h,Gd m h → callFn (LX (cFk kT Try.prog)) m h [(D.agg [.int .i64 (hd).form,.int .i64 (hd).n,.bool (hd).hid,.str (hd).name,slD 2 encL (hd).levels,slD 6 encT (hd).kids])] (cFk kT Try.prog 59) = .ok (encT (copyM hd)) m h := fun m h hg => pCopy m h hg hd p1 (by omega) (by omega)
  rw [encT_eq (copyM hd)] at cC ⊢
  have gG : ∀ k,nz ≤ k → Gd k K := fun k hk j hj => HK.good j (by omega)
  have w : ∀ X,getO (setO K (n + 1) X) (n + 1) = X := fun X => getO_setO_same (by rw [y1]; simp)
  have F : ∀ m,nz ≤ m → finishD n m (setO K (n + 1) (Ob.row 6 [.agg [.int .i64 (copyM hd).form,.int .i64 (copyM hd).n,.bool (copyM hd).hid,.str (copyM hd).name,slD 2 encL (copyM hd).levels,slD 6 encT (copyM hd).kids]])) (.tup [(D.agg [.int .i64 (copyM hd).form,.int .i64 (copyM hd).n,.bool (copyM hd).hid,.str (copyM hd).name,slD 2 encL (copyM hd).levels,slD 6 encT (copyM hd).kids]),dA,dB]) = .ok (.tup [(D.agg [.int .i64 (copyM hd).form,.int .i64 (copyM hd).n,.bool (copyM hd).hid,.str (copyM hd).name,slD 2 encL (copyM hd).levels,slD 6 encT (copyM hd).kids]),slD 6 encT (Sl.app (A.map copyM)),slD 1 encB (Sl.app B)]) n h := fun m hm => by
    have Hm := (HK.set (r := n + 1) (x := (Ob.row 6 [.agg [.int .i64 (copyM hd).form,.int .i64 (copyM hd).n,.bool (copyM hd).hid,.str (copyM hd).name,slD 2 encL (copyM hd).levels,slD 6 encT (copyM hd).kids]])) (by omega) (fun k _ => lowO_one (low_flat (flatTA (copyM hd))))).mono hm
    have F := finishD_fz (n := m) (Fz.tup (.cons ((Fz.of2 (d := (D.agg [.int .i64 (copyM hd).form,.int .i64 (copyM hd).n,.bool (copyM hd).hid,.str (copyM hd).name,slD 2 encL (copyM hd).levels,slD 6 encT (copyM hd).kids])) (by rw [← encT_eq]; exact elemT.flat _)).mono (show 2 ≤ 3 by omega)) (.cons (Fz.bld elemT ((BAz.set y1 (by omega)).wide (show n ≤ n + 10 + 2 by omega))) (.cons (Fz.bld elemB ((BBz.set y1 (by omega)).wide (show n ≤ n + 10 + 2 by omega))) .nil)))) (by omega) Hm.leak
    rw [F,Hm.drop]
  simp (disch:=first|assumption|omega|(simp (disch:=first|assumption|omega) only [sB,Nat.reduceAdd,Nat.reduceLT,Nat.reduceLeDiff,Nat.reduceEqDiff,Nat.reduceMul,↓reduceIte,gG];done)|fail) only [sA,↓reduceIte,Nat.reduceLT,Nat.reduceEqDiff,Nat.reduceAdd,Nat.reduceLeDiff,g2,g5,g6,g7,y5,y1,cC,hA,hB,w,F,gG]
end Go.Proofs.Ytdijijblccmfbaa

/- The reference's Spine of terms. No condition but sizes. -/
namespace Go.Proofs.Ytdijijblccmfbaa
open Go

def Sl.made {α : Type} (l : List α) : Sl α := ⟨false,false,l,[]⟩
theorem spn_none {t : Tm} (h : (spn t).2.1 = []) (hfm : formedT t.abs = true) : t.form ≠ 5 := fun h5 => by
  obtain ⟨k0,k1,hk,_,_⟩ := kids_two h5 hfm
  rw [spn_app h5 hk] at h
  simp at h
theorem rep_set {α : Type} {z x : α} {D : List α} {i : Nat} : (List.replicate (i + 1) z ++ D).set i x = List.replicate i z ++ x :: D := by
  rw [List.replicate_succ',List.append_assoc,List.set_append_right _ _ (by rw [List.length_replicate]; omega),List.length_replicate,Nat.sub_self]
  rfl
set_option maxHeartbeats 8000000 in
set_option maxRecDepth 8000 in
theorem rSpine (t : Tm) (hfm : formedT t.abs = true) (hsl : slimT t.abs = true) (hsz : sizeT t.abs ≤ 20000) (n : Nat) (h : Hps) (hg : Gd n h) :
    callFn (LX (cFk kT Try.prog)) n h [(D.agg [.int .i64 (t).form,.int .i64 (t).n,.bool (t).hid,.str (t).name,slD 2 encL (t).levels,slD 6 encT (t).kids])] (cFk kT Try.prog 29) = .ok (.tup [encT (spn t).1,slD 6 encT (Sl.made (spn t).2.1),slD 1 encB (Sl.made (spn t).2.2)]) n h := by
  have hgn := hg n (Nat.le_refl _)
  have hG : ∀ m,n ≤ m → Gd m h := fun m hm => Gd.mono hg hm
  obtain ⟨_,_,_,_,p5,p6⟩ := spn_slim t hsl
  have H0 : Hp n h (n + 2) ((n + 1,(Ob.row 6 [.agg [.int .i64 0,.int .i64 0,.bool false,.str [],.nils,.nils]])) :: (n,(Ob.row 6 [.agg [.int .i64 (t).form,.int .i64 (t).n,.bool (t).hid,.str (t).name,slD 2 encL (t).levels,slD 6 encT (t).kids]])) :: h) := ((Hp.start hg).box (r := n) (m := n + 1) (Nat.le_refl _) (by omega) (flatTA t)).box (r := n + 1) (m := n + 2) (k := 6) (d := (D.agg [.int .i64 0,.int .i64 0,.bool false,.str [],.nils,.nils])) (by omega) (by omega) rfl
  rw [f29_eq]; unfold c29; rw [callFn_eq (by rfl)]
  simp (disch:=first|assumption|omega|(simp (disch:=first|assumption|omega) only [sB,Nat.reduceAdd,Nat.reduceLT,Nat.reduceLeDiff,Nat.reduceEqDiff,Nat.reduceMul,↓reduceIte];done)|fail) only [sA,↓reduceIte,Nat.reduceLT,Nat.reduceEqDiff,Nat.reduceAdd,Nat.reduceLeDiff]
  generalize hr : LX (cFk kT Try.prog) (.loop l29_0) _ _ _ = R
  obtain ⟨x,ez,nz,K,rfl,rfl,HK,p1,y0,y1,q1,q2,q3,q4,q5⟩ := loop_at hr
    (fun j e n' K => Hp n h n' K ∧ n + 2 ≤ n' ∧ getO K n = (Ob.row 6 [.agg [.int .i64 (t).form,.int .i64 (t).n,.bool (t).hid,.str (t).name,slD 2 encL (t).levels,slD 6 encT (t).kids]]) ∧ getO K (n + 1) = (Ob.row 6 [.agg [.int .i64 0,.int .i64 0,.bool false,.str [],.nils,.nils]]) ∧ get (po 1) e = .ptr n 0 0 ∧ get (po 2) e = .ptr (n + 1) 0 0 ∧ get (po 3) e = .nils ∧ get (po 4) e = .nils ∧ ∃ (cur : Tm) (c r : Nat),sizeT cur.abs = j ∧ formedT cur.abs = true ∧ c + (spn cur).2.1.length = (spn t).2.1.length ∧ n + 2 ≤ r ∧ r < n' ∧ getO K r = (Ob.row 6 [.agg [.int .i64 (cur).form,.int .i64 (cur).n,.bool (cur).hid,.str (cur).name,slD 2 encL (cur).levels,slD 6 encT (cur).kids]]) ∧ get (po 5) e = .int .i64 (c : Nat) ∧ get (po 6) e = .ptr r 0 0)
    (fun x e n' K => x = .exit 0 ∧ Hp n h n' K ∧ n + 2 ≤ n' ∧ getO K n = (Ob.row 6 [.agg [.int .i64 (t).form,.int .i64 (t).n,.bool (t).hid,.str (t).name,slD 2 encL (t).levels,slD 6 encT (t).kids]]) ∧ getO K (n + 1) = (Ob.row 6 [.agg [.int .i64 0,.int .i64 0,.bool false,.str [],.nils,.nils]]) ∧ get (po 1) e = .ptr n 0 0 ∧ get (po 2) e = .ptr (n + 1) 0 0 ∧ get (po 3) e = .nils ∧ get (po 4) e = .nils ∧ get (po 5) e = .int .i64 ((spn t).2.1.length : Nat))
    (by
      rintro j e n' K ⟨H,p1,y0,y1,q1,q2,q3,q4,cur,c,r,hj,hcf,hc,hr1,hr2,yr,q5,q6⟩
      unfold l29_0
      by_cases hf : cur.form = 5
      · obtain ⟨k0,k1,hk,hk0,hsz0⟩ := kids_two hf hcf
        have i0 : 0 < cur.kids.el.length := by rw [hk]; simp
        have e0 : ∀ hh,encT (cur.kids.el[0]'hh) = (D.agg [.int .i64 (k0).form,.int .i64 (k0).n,.bool (k0).hid,.str (k0).name,slD 2 encL (k0).levels,slD 6 encT (k0).kids]) := fun hh => by simp only [hk]; exact encT_eq _
        rw [spn_app hf hk] at hc
        replace hc : c + ((spn k0).2.1 ++ [k1]).length = (spn t).2.1.length := hc
        rw [List.length_append,List.length_singleton] at hc
        rw [hf] at yr
        simp (disch:=first|assumption|omega|(simp (disch:=first|assumption|omega) only [sB,Nat.reduceAdd,Nat.reduceLT,Nat.reduceLeDiff,Nat.reduceEqDiff,Nat.reduceMul,↓reduceIte,i0];done)|fail) only [sA,↓reduceIte,Nat.reduceLT,Nat.reduceEqDiff,Nat.reduceAdd,Nat.reduceLeDiff,q5,q6,yr,e0,i0]
        exact ⟨_,_,_,_,rfl,.inl ⟨rfl,sizeT k0.abs,by omega,(H.box (r := n' + 7) (m := n' + 8) (by omega) (by omega) (flatTA k0)).mono (by omega),by omega,by rw [getO_tl (by omega)]; exact y0,by rw [getO_tl (by omega)]; exact y1,by simp (disch:=first|assumption|omega|(simp (disch:=first|assumption|omega) only [sB,Nat.reduceAdd,Nat.reduceLT,Nat.reduceLeDiff,Nat.reduceEqDiff,Nat.reduceMul,↓reduceIte];done)|fail) only [sA,↓reduceIte,Nat.reduceLT,Nat.reduceEqDiff,Nat.reduceAdd,Nat.reduceLeDiff,q1],by simp (disch:=first|assumption|omega|(simp (disch:=first|assumption|omega) only [sB,Nat.reduceAdd,Nat.reduceLT,Nat.reduceLeDiff,Nat.reduceEqDiff,Nat.reduceMul,↓reduceIte];done)|fail) only [sA,↓reduceIte,Nat.reduceLT,Nat.reduceEqDiff,Nat.reduceAdd,Nat.reduceLeDiff,q2],by simp (disch:=first|assumption|omega|(simp (disch:=first|assumption|omega) only [sB,Nat.reduceAdd,Nat.reduceLT,Nat.reduceLeDiff,Nat.reduceEqDiff,Nat.reduceMul,↓reduceIte];done)|fail) only [sA,↓reduceIte,Nat.reduceLT,Nat.reduceEqDiff,Nat.reduceAdd,Nat.reduceLeDiff,q3],by simp (disch:=first|assumption|omega|(simp (disch:=first|assumption|omega) only [sB,Nat.reduceAdd,Nat.reduceLT,Nat.reduceLeDiff,Nat.reduceEqDiff,Nat.reduceMul,↓reduceIte];done)|fail) only [sA,↓reduceIte,Nat.reduceLT,Nat.reduceEqDiff,Nat.reduceAdd,Nat.reduceLeDiff,q4],k0,c + 1,n' + 7,rfl,hk0,by omega,by omega,by omega,getO_hd,by simp (disch:=first|assumption|omega|(simp (disch:=first|assumption|omega) only [sB,Nat.reduceAdd,Nat.reduceLT,Nat.reduceLeDiff,Nat.reduceEqDiff,Nat.reduceMul,↓reduceIte];done)|fail) only [sA,↓reduceIte,Nat.reduceLT,Nat.reduceEqDiff,Nat.reduceAdd,Nat.reduceLeDiff],by simp (disch:=first|assumption|omega|(simp (disch:=first|assumption|omega) only [sB,Nat.reduceAdd,Nat.reduceLT,Nat.reduceLeDiff,Nat.reduceEqDiff,Nat.reduceMul,↓reduceIte];done)|fail) only [sA,↓reduceIte,Nat.reduceLT,Nat.reduceEqDiff,Nat.reduceAdd,Nat.reduceLeDiff]⟩⟩
      · simp (disch:=first|assumption|omega|(simp (disch:=first|assumption|omega) only [sB,Nat.reduceAdd,Nat.reduceLT,Nat.reduceLeDiff,Nat.reduceEqDiff,Nat.reduceMul,↓reduceIte];done)|fail) only [sA,↓reduceIte,Nat.reduceLT,Nat.reduceEqDiff,Nat.reduceAdd,Nat.reduceLeDiff,q6,yr,hf]
        rw [spn_head hf] at hc
        refine ⟨_,_,_,_,rfl,.inr ⟨by simp,rfl,H.mono (by omega),by omega,y0,y1,by simp (disch:=first|assumption|omega|(simp (disch:=first|assumption|omega) only [sB,Nat.reduceAdd,Nat.reduceLT,Nat.reduceLeDiff,Nat.reduceEqDiff,Nat.reduceMul,↓reduceIte];done)|fail) only [sA,↓reduceIte,Nat.reduceLT,Nat.reduceEqDiff,Nat.reduceAdd,Nat.reduceLeDiff,q1],by simp (disch:=first|assumption|omega|(simp (disch:=first|assumption|omega) only [sB,Nat.reduceAdd,Nat.reduceLT,Nat.reduceLeDiff,Nat.reduceEqDiff,Nat.reduceMul,↓reduceIte];done)|fail) only [sA,↓reduceIte,Nat.reduceLT,Nat.reduceEqDiff,Nat.reduceAdd,Nat.reduceLeDiff,q2],by simp (disch:=first|assumption|omega|(simp (disch:=first|assumption|omega) only [sB,Nat.reduceAdd,Nat.reduceLT,Nat.reduceLeDiff,Nat.reduceEqDiff,Nat.reduceMul,↓reduceIte];done)|fail) only [sA,↓reduceIte,Nat.reduceLT,Nat.reduceEqDiff,Nat.reduceAdd,Nat.reduceLeDiff,q3],by simp (disch:=first|assumption|omega|(simp (disch:=first|assumption|omega) only [sB,Nat.reduceAdd,Nat.reduceLT,Nat.reduceLeDiff,Nat.reduceEqDiff,Nat.reduceMul,↓reduceIte];done)|fail) only [sA,↓reduceIte,Nat.reduceLT,Nat.reduceEqDiff,Nat.reduceAdd,Nat.reduceLeDiff,q4],?_⟩⟩
        rw [show (spn t).2.1.length = c from hc.symm]
        simp (disch:=first|assumption|omega|(simp (disch:=first|assumption|omega) only [sB,Nat.reduceAdd,Nat.reduceLT,Nat.reduceLeDiff,Nat.reduceEqDiff,Nat.reduceMul,↓reduceIte];done)|fail) only [sA,↓reduceIte,Nat.reduceLT,Nat.reduceEqDiff,Nat.reduceAdd,Nat.reduceLeDiff,q5])
    (sizeT t.abs) ⟨(H0.box (r := n + 6) (m := n + 7) (by omega) (by omega) (flatTA t)).mono (by omega),by omega,by rw [getO_tl (by omega),getO_tl (by omega),getO_hd],by rw [getO_tl (by omega),getO_hd],by simp (disch:=first|assumption|omega|(simp (disch:=first|assumption|omega) only [sB,Nat.reduceAdd,Nat.reduceLT,Nat.reduceLeDiff,Nat.reduceEqDiff,Nat.reduceMul,↓reduceIte];done)|fail) only [sA,↓reduceIte,Nat.reduceLT,Nat.reduceEqDiff,Nat.reduceAdd,Nat.reduceLeDiff],by simp (disch:=first|assumption|omega|(simp (disch:=first|assumption|omega) only [sB,Nat.reduceAdd,Nat.reduceLT,Nat.reduceLeDiff,Nat.reduceEqDiff,Nat.reduceMul,↓reduceIte];done)|fail) only [sA,↓reduceIte,Nat.reduceLT,Nat.reduceEqDiff,Nat.reduceAdd,Nat.reduceLeDiff],by simp (disch:=first|assumption|omega|(simp (disch:=first|assumption|omega) only [sB,Nat.reduceAdd,Nat.reduceLT,Nat.reduceLeDiff,Nat.reduceEqDiff,Nat.reduceMul,↓reduceIte];done)|fail) only [sA,↓reduceIte,Nat.reduceLT,Nat.reduceEqDiff,Nat.reduceAdd,Nat.reduceLeDiff],by simp (disch:=first|assumption|omega|(simp (disch:=first|assumption|omega) only [sB,Nat.reduceAdd,Nat.reduceLT,Nat.reduceLeDiff,Nat.reduceEqDiff,Nat.reduceMul,↓reduceIte];done)|fail) only [sA,↓reduceIte,Nat.reduceLT,Nat.reduceEqDiff,Nat.reduceAdd,Nat.reduceLeDiff],t,0,n + 6,rfl,hfm,by simp,by omega,by omega,getO_hd,by simp (disch:=first|assumption|omega|(simp (disch:=first|assumption|omega) only [sB,Nat.reduceAdd,Nat.reduceLT,Nat.reduceLeDiff,Nat.reduceEqDiff,Nat.reduceMul,↓reduceIte];done)|fail) only [sA,↓reduceIte,Nat.reduceLT,Nat.reduceEqDiff,Nat.reduceAdd,Nat.reduceLeDiff],by simp (disch:=first|assumption|omega|(simp (disch:=first|assumption|omega) only [sB,Nat.reduceAdd,Nat.reduceLT,Nat.reduceLeDiff,Nat.reduceEqDiff,Nat.reduceMul,↓reduceIte];done)|fail) only [sA,↓reduceIte,Nat.reduceLT,Nat.reduceEqDiff,Nat.reduceAdd,Nat.reduceLeDiff]⟩
  have hl1 : (spn t).2.1.length * 88 ≤ 140737488355328 := by omega
  have hl2 : (spn t).2.1.length * 1 ≤ 140737488355328 := by omega
  simp (disch:=first|assumption|omega|(simp (disch:=first|assumption|omega) only [sB,Nat.reduceAdd,Nat.reduceLT,Nat.reduceLeDiff,Nat.reduceEqDiff,Nat.reduceMul,↓reduceIte];done)|fail) only [sA,↓reduceIte,Nat.reduceLT,Nat.reduceEqDiff,Nat.reduceAdd,Nat.reduceLeDiff,q1,q2,q3,q4,q5,mksl_eq]
  have hz6 : List.replicate (spn t).2.1.length (D.agg [.int .i64 0,.int .i64 0,.bool false,.str [],.nils,.nils]) = (List.replicate (spn t).2.1.length zeroT).map encT := by rw [List.map_replicate,enc_zero]
  have hz1 : List.replicate (spn t).2.1.length (D.bool false) = (List.replicate (spn t).2.1.length false).map encB := by rw [List.map_replicate]; rfl
  rw [hz6,hz1]
  have H9 : Hp n h (nz + 9) ((nz + 4,.row 1 ((List.replicate (spn t).2.1.length false).map encB)) :: (nz + 1,.row 6 ((List.replicate (spn t).2.1.length zeroT).map encT)) :: K) := ((HK.cons (r := nz + 1) (m := nz + 2) (by omega) (by omega) (fun k _ => lowO_map (fun x => low_flat (flatT x)))).cons (r := nz + 4) (m := nz + 5) (by omega) (by omega) (fun k _ => lowO_map (fun x => low_flat rfl))).mono (by omega)
  generalize hr : LX (cFk kT Try.prog) (.loop l29_1) _ _ _ = R
  obtain ⟨x,e2,n2,G,rfl,rfl,H2,p2,cur,hspn,z0,z1,z6,z8,g2,g7,g8,g1⟩ := loop_at hr
    (fun j e n' K => Hp n h n' K ∧ nz + 9 ≤ n' ∧ ∃ (cur : Tm) (DD : List Tm) (EE : List Bool),formedT cur.abs = true ∧ (spn cur).1 = (spn t).1 ∧ (spn cur).2.1.length = j ∧ (spn cur).2.2.length = j ∧ (spn t).2.1 = (spn cur).2.1 ++ DD ∧ (spn t).2.2 = (spn cur).2.2 ++ EE ∧ getO K n = (Ob.row 6 [.agg [.int .i64 (cur).form,.int .i64 (cur).n,.bool (cur).hid,.str (cur).name,slD 2 encL (cur).levels,slD 6 encT (cur).kids]]) ∧ getO K (n + 1) = (Ob.row 6 [.agg [.int .i64 0,.int .i64 0,.bool false,.str [],.nils,.nils]]) ∧
      getO K (nz + 1) = .row 6 ((List.replicate j zeroT ++ DD).map encT) ∧ getO K (nz + 4) = .row 1 ((List.replicate j false ++ EE).map encB) ∧ get (po 1) e = .ptr n 0 0 ∧ get (po 2) e = .ptr (n + 1) 0 0 ∧ get (po 7) e = .ms 6 (nz + 1) 0 (spn t).2.1.length false ∧ get (po 8) e = .ms 1 (nz + 4) 0 (spn t).2.1.length false ∧ get (po 9) e = .int .i64 ((j : Nat) - 1 : Int))
    (fun x e n' K => x = .exit 2 ∧ Hp n h n' K ∧ nz + 9 ≤ n' ∧ ∃ cur : Tm,(spn t).1 = cur ∧ getO K n = (Ob.row 6 [.agg [.int .i64 (cur).form,.int .i64 (cur).n,.bool (cur).hid,.str (cur).name,slD 2 encL (cur).levels,slD 6 encT (cur).kids]]) ∧ getO K (n + 1) = (Ob.row 6 [.agg [.int .i64 0,.int .i64 0,.bool false,.str [],.nils,.nils]]) ∧ getO K (nz + 1) = .row 6 ((spn t).2.1.map encT) ∧ getO K (nz + 4) = .row 1 ((spn t).2.2.map encB) ∧ get (po 2) e = .ptr (n + 1) 0 0 ∧ get (po 7) e = .ms 6 (nz + 1) 0 (spn t).2.1.length false ∧ get (po 8) e = .ms 1 (nz + 4) 0 (spn t).2.1.length false ∧ get (po 1) e = .ptr n 0 0)
    (by
      rintro j e n' K ⟨H,p1,cur,DD,EE,hcf,c1,c2,c3,c4,c5,z0,z1,z6,z8,g1,g2,g7,g8,g9⟩
      unfold l29_1
      cases j with
      | zero =>
        have hneg : decide ((0 : Int) ≤ ((0 : Nat) : Int) - 1) = false := by decide
        have hh := spn_head (spn_none (List.length_eq_zero_iff.1 c2) hcf)
        rw [hh] at c1 c4 c5
        simp (disch:=first|assumption|omega|(simp (disch:=first|assumption|omega) only [sB,Nat.reduceAdd,Nat.reduceLT,Nat.reduceLeDiff,Nat.reduceEqDiff,Nat.reduceMul,↓reduceIte];done)|fail) only [sA,↓reduceIte,Nat.reduceLT,Nat.reduceEqDiff,Nat.reduceAdd,Nat.reduceLeDiff,g9,hneg]
        exact ⟨_,_,_,_,rfl,.inr ⟨by simp,rfl,H.mono (by omega),by omega,cur,c1.symm,z0,z1,by rw [c4]; exact z6,by rw [c5]; exact z8,by simp (disch:=first|assumption|omega|(simp (disch:=first|assumption|omega) only [sB,Nat.reduceAdd,Nat.reduceLT,Nat.reduceLeDiff,Nat.reduceEqDiff,Nat.reduceMul,↓reduceIte];done)|fail) only [sA,↓reduceIte,Nat.reduceLT,Nat.reduceEqDiff,Nat.reduceAdd,Nat.reduceLeDiff,g2],by simp (disch:=first|assumption|omega|(simp (disch:=first|assumption|omega) only [sB,Nat.reduceAdd,Nat.reduceLT,Nat.reduceLeDiff,Nat.reduceEqDiff,Nat.reduceMul,↓reduceIte];done)|fail) only [sA,↓reduceIte,Nat.reduceLT,Nat.reduceEqDiff,Nat.reduceAdd,Nat.reduceLeDiff,g7],by simp (disch:=first|assumption|omega|(simp (disch:=first|assumption|omega) only [sB,Nat.reduceAdd,Nat.reduceLT,Nat.reduceLeDiff,Nat.reduceEqDiff,Nat.reduceMul,↓reduceIte];done)|fail) only [sA,↓reduceIte,Nat.reduceLT,Nat.reduceEqDiff,Nat.reduceAdd,Nat.reduceLeDiff,g8],by simp (disch:=first|assumption|omega|(simp (disch:=first|assumption|omega) only [sB,Nat.reduceAdd,Nat.reduceLT,Nat.reduceLeDiff,Nat.reduceEqDiff,Nat.reduceMul,↓reduceIte];done)|fail) only [sA,↓reduceIte,Nat.reduceLT,Nat.reduceEqDiff,Nat.reduceAdd,Nat.reduceLeDiff,g1]⟩⟩
      | succ i =>
        rw [show (((i + 1 : Nat) : Int) - 1) = ((i : Nat) : Int) by omega] at g9
        have hf : cur.form = 5 := by
          by_cases hf : cur.form = 5
          · exact hf
          · rw [spn_head hf] at c2; cases c2
        obtain ⟨k0,k1,hk,hk0,hsz0⟩ := kids_two hf hcf
        have hs := spn_app hf hk
        have i0 : 0 < cur.kids.el.length := by rw [hk]; simp
        have i1 : 1 < cur.kids.el.length := by rw [hk]; simp
        have e0 : ∀ hh,encT (cur.kids.el[0]'hh) = (D.agg [.int .i64 (k0).form,.int .i64 (k0).n,.bool (k0).hid,.str (k0).name,slD 2 encL (k0).levels,slD 6 encT (k0).kids]) := fun hh => by simp only [hk]; exact encT_eq _
        have e1 : ∀ hh,encT (cur.kids.el[1]'hh) = (D.agg [.int .i64 (k1).form,.int .i64 (k1).n,.bool (k1).hid,.str (k1).name,slD 2 encL (k1).levels,slD 6 encT (k1).kids]) := fun hh => by simp only [hk]; exact encT_eq _
        have hpos : (0 : Int) ≤ ((i : Nat) : Int) := by omega
        have hil : i < (spn t).2.1.length := by rw [c4,List.length_append]; omega
        have hi6 : i < (List.replicate (i + 1) zeroT ++ DD).length := by rw [List.length_append,List.length_replicate]; omega
        have hi8 : i < (List.replicate (i + 1) false ++ EE).length := by rw [List.length_append,List.length_replicate]; omega
        rw [hf] at z0
        have w1 : ∀ X,getO (setO K (nz + 1) X) (nz + 4) = .row 1 ((List.replicate (i + 1) false ++ EE).map encB) := fun X => getO_set2 z6 z8 (by omega)
        have w2 : ∀ X,getO (setO K (nz + 1) X) n = .row 6 [.agg [.int .i64 5,.int .i64 cur.n,.bool cur.hid,.str cur.name,slD 2 encL cur.levels,slD 6 encT cur.kids]] := fun X => getO_set2 z6 z0 (by omega)
        have w3 : ∀ X Y,getO (setO (setO K (nz + 1) X) (nz + 4) Y) n = .row 6 [.agg [.int .i64 5,.int .i64 cur.n,.bool cur.hid,.str cur.name,slD 2 encL cur.levels,slD 6 encT cur.kids]] := fun X Y => getO_set2 (w1 X) (w2 X) (by omega)
        simp (disch:=first|assumption|omega|(simp (disch:=first|assumption|omega) only [sB,Nat.reduceAdd,Nat.reduceLT,Nat.reduceLeDiff,Nat.reduceEqDiff,Nat.reduceMul,↓reduceIte,i0,i1,hil,hi6,hi8];done)|fail) only [sA,↓reduceIte,Nat.reduceLT,Nat.reduceEqDiff,Nat.reduceAdd,Nat.reduceLeDiff,g1,g7,g8,g9,z0,z6,w1,w2,w3,hpos,e0,e1,iaddr_ms,store_tm,store_b,i0,i1,hil,hi6,hi8]
        rw [hs] at c1 c2 c3 c4 c5
        have c2' : (spn k0).2.1.length = i := by
          have : ((spn k0).2.1 ++ [k1]).length = i + 1 := c2
          rw [List.length_append,List.length_singleton] at this; omega
        have c3' : (spn k0).2.2.length = i := by
          have : ((spn k0).2.2 ++ [cur.hid]).length = i + 1 := c3
          rw [List.length_append,List.length_singleton] at this; omega
        exact ⟨_,_,_,_,rfl,.inl ⟨rfl,i,by omega,(((H.set (r := nz + 1) (by omega) (fun k _ => lowO_map (fun x => low_flat (flatT x)))).set (r := nz + 4) (by omega) (fun k _ => lowO_map (fun x => low_flat rfl))).set (r := n) (by omega) (fun k _ => lowO_one (low_flat (flatTA k0)))).mono (by omega),by omega,k0,k1 :: DD,cur.hid :: EE,hk0,c1,c2',c3',by rw [c4]; simp,by rw [c5]; simp,
          getO_set1 (w3 _ _),getO_set2 (w3 _ _) (getO_set2 (w1 _) (getO_set2 z6 z1 (by omega)) (by omega)) (by omega),by rw [← rep_set]; exact getO_set2 (w3 _ _) (getO_set2 (w1 _) (getO_set1 z6) (by omega)) (by omega),by rw [← rep_set]; exact getO_set2 (w3 _ _) (getO_set1 (w1 _)) (by omega),by simp (disch:=first|assumption|omega|(simp (disch:=first|assumption|omega) only [sB,Nat.reduceAdd,Nat.reduceLT,Nat.reduceLeDiff,Nat.reduceEqDiff,Nat.reduceMul,↓reduceIte];done)|fail) only [sA,↓reduceIte,Nat.reduceLT,Nat.reduceEqDiff,Nat.reduceAdd,Nat.reduceLeDiff,g1],by simp (disch:=first|assumption|omega|(simp (disch:=first|assumption|omega) only [sB,Nat.reduceAdd,Nat.reduceLT,Nat.reduceLeDiff,Nat.reduceEqDiff,Nat.reduceMul,↓reduceIte];done)|fail) only [sA,↓reduceIte,Nat.reduceLT,Nat.reduceEqDiff,Nat.reduceAdd,Nat.reduceLeDiff,g2],by simp (disch:=first|assumption|omega|(simp (disch:=first|assumption|omega) only [sB,Nat.reduceAdd,Nat.reduceLT,Nat.reduceLeDiff,Nat.reduceEqDiff,Nat.reduceMul,↓reduceIte];done)|fail) only [sA,↓reduceIte,Nat.reduceLT,Nat.reduceEqDiff,Nat.reduceAdd,Nat.reduceLeDiff,g7],by simp (disch:=first|assumption|omega|(simp (disch:=first|assumption|omega) only [sB,Nat.reduceAdd,Nat.reduceLT,Nat.reduceLeDiff,Nat.reduceEqDiff,Nat.reduceMul,↓reduceIte];done)|fail) only [sA,↓reduceIte,Nat.reduceLT,Nat.reduceEqDiff,Nat.reduceAdd,Nat.reduceLeDiff,g8],by simp (disch:=first|assumption|omega|(simp (disch:=first|assumption|omega) only [sB,Nat.reduceAdd,Nat.reduceLT,Nat.reduceLeDiff,Nat.reduceEqDiff,Nat.reduceMul,↓reduceIte];done)|fail) only [sA,↓reduceIte,Nat.reduceLT,Nat.reduceEqDiff,Nat.reduceAdd,Nat.reduceLeDiff]⟩⟩)
    (spn t).2.1.length ⟨H9,by omega,t,[],[],hfm,rfl,rfl,p5.symm,by simp,by simp,by rw [getO_tl (by omega),getO_tl (by omega)]; exact y0,by rw [getO_tl (by omega),getO_tl (by omega)]; exact y1,by rw [getO_tl (by omega),getO_hd,List.append_nil],by rw [getO_hd,List.append_nil],by simp (disch:=first|assumption|omega|(simp (disch:=first|assumption|omega) only [sB,Nat.reduceAdd,Nat.reduceLT,Nat.reduceLeDiff,Nat.reduceEqDiff,Nat.reduceMul,↓reduceIte];done)|fail) only [sA,↓reduceIte,Nat.reduceLT,Nat.reduceEqDiff,Nat.reduceAdd,Nat.reduceLeDiff,q1],by simp (disch:=first|assumption|omega|(simp (disch:=first|assumption|omega) only [sB,Nat.reduceAdd,Nat.reduceLT,Nat.reduceLeDiff,Nat.reduceEqDiff,Nat.reduceMul,↓reduceIte];done)|fail) only [sA,↓reduceIte,Nat.reduceLT,Nat.reduceEqDiff,Nat.reduceAdd,Nat.reduceLeDiff,q2],by simp (disch:=first|assumption|omega|(simp (disch:=first|assumption|omega) only [sB,Nat.reduceAdd,Nat.reduceLT,Nat.reduceLeDiff,Nat.reduceEqDiff,Nat.reduceMul,↓reduceIte];done)|fail) only [sA,↓reduceIte,Nat.reduceLT,Nat.reduceEqDiff,Nat.reduceAdd,Nat.reduceLeDiff],by simp (disch:=first|assumption|omega|(simp (disch:=first|assumption|omega) only [sB,Nat.reduceAdd,Nat.reduceLT,Nat.reduceLeDiff,Nat.reduceEqDiff,Nat.reduceMul,↓reduceIte];done)|fail) only [sA,↓reduceIte,Nat.reduceLT,Nat.reduceEqDiff,Nat.reduceAdd,Nat.reduceLeDiff],by simp (disch:=first|assumption|omega|(simp (disch:=first|assumption|omega) only [sB,Nat.reduceAdd,Nat.reduceLT,Nat.reduceLeDiff,Nat.reduceEqDiff,Nat.reduceMul,↓reduceIte];done)|fail) only [sA,↓reduceIte,Nat.reduceLT,Nat.reduceEqDiff,Nat.reduceAdd,Nat.reduceLeDiff]⟩
  have w : ∀ X,getO (setO G (n + 1) X) (n + 1) = X := fun X => getO_setO_same (by rw [z1]; simp)
  have F : ∀ m,n2 ≤ m → finishD n m (setO G (n + 1) (Ob.row 6 [.agg [.int .i64 (cur).form,.int .i64 (cur).n,.bool (cur).hid,.str (cur).name,slD 2 encL (cur).levels,slD 6 encT (cur).kids]])) (.tup [(D.agg [.int .i64 (cur).form,.int .i64 (cur).n,.bool (cur).hid,.str (cur).name,slD 2 encL (cur).levels,slD 6 encT (cur).kids]),.ms 6 (nz + 1) 0 (spn t).2.1.length false,.ms 1 (nz + 4) 0 (spn t).2.1.length false]) = .ok (.tup [(D.agg [.int .i64 (cur).form,.int .i64 (cur).n,.bool (cur).hid,.str (cur).name,slD 2 encL (cur).levels,slD 6 encT (cur).kids]),slD 6 encT (Sl.made (spn t).2.1),slD 1 encB (Sl.made (spn t).2.2)]) n h := fun m hm => by
    have Hm := (H2.set (r := n + 1) (x := (Ob.row 6 [.agg [.int .i64 (cur).form,.int .i64 (cur).n,.bool (cur).hid,.str (cur).name,slD 2 encL (cur).levels,slD 6 encT (cur).kids]])) (by omega) (fun k _ => lowO_one (low_flat (flatTA cur)))).mono hm
    have f1 := Fz.ms (n0 := n) (r := nz + 1) (full := false) elemT (by omega) (getO_set2 (x := (Ob.row 6 [.agg [.int .i64 (cur).form,.int .i64 (cur).n,.bool (cur).hid,.str (cur).name,slD 2 encL (cur).levels,slD 6 encT (cur).kids]])) z1 z6 (show nz + 1 ≠ n + 1 by omega))
    have f2 := Fz.ms (n0 := n) (r := nz + 4) (full := false) elemB (by omega) (getO_set2 (x := (Ob.row 6 [.agg [.int .i64 (cur).form,.int .i64 (cur).n,.bool (cur).hid,.str (cur).name,slD 2 encL (cur).levels,slD 6 encT (cur).kids]])) z1 z8 (show nz + 4 ≠ n + 1 by omega))
    rw [← p5] at f2
    have F := finishD_fz (n := m) (Fz.tup (.cons ((Fz.of2 (d := (D.agg [.int .i64 (cur).form,.int .i64 (cur).n,.bool (cur).hid,.str (cur).name,slD 2 encL (cur).levels,slD 6 encT (cur).kids])) (by rw [← encT_eq]; exact elemT.flat _)).mono (show 2 ≤ 3 by omega)) (.cons f1 (.cons f2 .nil)))) (by omega) Hm.leak
    rw [F,Hm.drop]
    rfl
  rw [hspn,encT_eq]
  simp (disch:=first|assumption|omega|(simp (disch:=first|assumption|omega) only [sB,Nat.reduceAdd,Nat.reduceLT,Nat.reduceLeDiff,Nat.reduceEqDiff,Nat.reduceMul,↓reduceIte];done)|fail) only [sA,↓reduceIte,Nat.reduceLT,Nat.reduceEqDiff,Nat.reduceAdd,Nat.reduceLeDiff,g1,g2,g7,g8,z0,z1,w,F]
end Go.Proofs.Ytdijijblccmfbaa

/- TeleSpine: what stands at the head of a row,and its arguments: the law's own steps. No condition but sizes. -/
namespace Go.Proofs.Ytdijijblccmfbaa
open Go

theorem size1_eq (t : Trm) : sizeT1 t = true ↔ ((t.levels.length ≤ 1000000000 ∧ t.kids.length ≤ 1000000000) ∧ ∀ x,x ∈ t.levels → x.v.length ≤ 1000000000) ∧ ∀ k,k ∈ t.kids → sizeT1 k = true := by
  unfold sizeT1
  rw [allT_eq,allTs_eq,Bool.and_eq_true,Bool.and_eq_true,decide_eq_true_iff,List.all_eq_true,List.all_eq_true]
  exact ⟨fun h => ⟨⟨h.1.1,fun x hx => of_decide_eq_true (h.1.2 x hx)⟩,h.2⟩,fun h => ⟨⟨h.1.1,fun x hx => decide_eq_true (h.1.2 x hx)⟩,h.2⟩⟩
theorem size1_clean : ∀ t : Trm,sizeT1 t = true → sizeT1 (cleanT t) = true := by
  refine Trm.ind ?_
  intro t ih h
  obtain ⟨⟨⟨h1,h2⟩,h3⟩,h4⟩ := (size1_eq t).1 h
  rw [clean_tidy]
  refine (size1_eq _).2 ⟨⟨⟨?_,by show (t.kids.map cleanT).length ≤ _; rw [List.length_map]; exact h2⟩,fun x hx => ?_⟩,fun k hk => ?_⟩
  · show (if t.form = 2 ∨ t.form = 10 then t.levels else []).length ≤ _
    split
    · exact h1
    · simp
  · replace hx : x ∈ (if t.form = 2 ∨ t.form = 10 then t.levels else []) := hx
    split at hx
    · exact h3 x hx
    · cases hx
  · obtain ⟨y,hy,rfl⟩ := List.mem_map.1 hk
    exact ih y hy (h4 y hy)
theorem spn_size1 : ∀ t : Tm,formedT t.abs = true → sizeT1 t.abs = true → (formedT (spn t).1.abs = true ∧ sizeT1 (spn t).1.abs = true) ∧ ∀ x,x ∈ (spn t).2.1 → formedT x.abs = true ∧ sizeT1 x.abs = true := by
  refine Tm.ind ?_
  intro t ih hf hs
  by_cases h5 : t.form = 5
  · obtain ⟨k0,k1,hk,hk0,_⟩ := kids_two h5 hf
    have m0 : k0 ∈ t.kids.el := by rw [hk]; simp
    have m1 : k1 ∈ t.kids.el := by rw [hk]; simp
    have hsk := (size1_tm hs).2.2
    have hk1 : formedT k1.abs = true := by
      rw [formed_tm,Bool.and_eq_true,List.all_eq_true] at hf
      exact hf.2 k1 m1
    obtain ⟨a1,a2⟩ := ih k0 m0 hk0 (hsk k0 m0)
    rw [spn_app h5 hk]
    refine ⟨a1,fun x hx => ?_⟩
    rcases List.mem_append.1 hx with hx | hx
    · exact a2 x hx
    · rw [List.mem_singleton.1 hx]; exact ⟨hk1,hsk k1 m1⟩
  · rw [spn_head h5]
    exact ⟨⟨hf,hs⟩,fun x hx => (by cases hx)⟩
theorem copy_abs (t : Tm) (hf : formedT t.abs = true) (hs : sizeT t.abs ≤ 20000) : (copyM t).abs = cleanT t.abs := by
  refine copy_val t (formed_leaf _ hf) 0 1099511627776 ?_
  have := (runM_low steadyC t 0 1099511627776).1
  omega
set_option maxHeartbeats 8000000 in
theorem sSame (sa sb : Sl Tm) (hl : sa.el.length = sb.el.length) (hlb : sa.el.length ≤ 1000000000) (hab : ∀ (i : Nat) (hi : i < sa.el.length) (hi' : i < sb.el.length),sa.el[i].abs = cleanT sb.el[i].abs) (s1 : ∀ x,x ∈ sa.el → sizeT1 x.abs = true) (s2 : ∀ x,x ∈ sb.el → sizeT1 x.abs = true) (n : Nat) (h : Hps) (hg : Gd n h) :
    callFn (LX (cFk kT Try.prog)) n h [slD 6 encT sa,slD 6 encT sb] (cFk kT Try.prog 31) = .ok (.bool true) n h := by
  have hgn := hg n (Nat.le_refl _)
  have d1 : decide (((sa.el.length : Nat) : Int) = ((sb.el.length : Nat) : Int)) = true := decide_eq_true (by omega)
  have H0 : Hp n h n h := Hp.start hg
  rw [f31_eq]; unfold c31; rw [callFn_eq (by rfl)]
  simp (disch:=first|assumption|omega|(simp (disch:=first|assumption|omega) only [sB,Nat.reduceAdd,Nat.reduceLT,Nat.reduceLeDiff,Nat.reduceEqDiff,Nat.reduceMul,↓reduceIte];done)|fail) only [sA,↓reduceIte,Nat.reduceLT,Nat.reduceEqDiff,Nat.reduceAdd,Nat.reduceLeDiff,d1]
  generalize hr : LX (cFk kT Try.prog) (.loop l31_0) _ _ _ = R
  obtain ⟨x,e,nz,G,rfl,rfl,HG⟩ := loop_up hr sa.el.length
    (fun i e n' G => Hp n h n' G ∧ get (po 0) e = slD 6 encT sa ∧ get (po 1) e = slD 6 encT sb ∧ get (po 5) e = .int .i64 (i : Nat))
    (fun x e n' G => x = .exit 0 ∧ Hp n h n' G)
    (by
      rintro e n' G ⟨H,q0,q1,q5⟩
      unfold l31_0
      simp (disch:=first|assumption|omega|(simp (disch:=first|assumption|omega) only [sB,Nat.reduceAdd,Nat.reduceLT,Nat.reduceLeDiff,Nat.reduceEqDiff,Nat.reduceMul,↓reduceIte];done)|fail) only [sA,↓reduceIte,Nat.reduceLT,Nat.reduceEqDiff,Nat.reduceAdd,Nat.reduceLeDiff,q0,q5]
      exact ⟨_,_,_,_,rfl,by simp,rfl,H.mono (by omega)⟩)
    (by
      rintro i e n' G hi ⟨H,q0,q1,q5⟩
      have hi' : i < sb.el.length := by omega
      have hG : ∀ m,n' ≤ m → Gd m G := fun m hm => H.good' hm
      have hky : ∀ m,n' ≤ m → keysFrom m G = [] := fun m hm => keys_gd (hG m hm)
      have c1 := rClean sb.el[i] (s2 _ (List.getElem_mem hi'))
      have c2 := exT sa.el[i] (s1 _ (List.getElem_mem hi)) (rcl sb.el[i]) (by rw [rcl_abs]; exact hab i hi hi')
      rw [encT_eq (rcl sb.el[i])] at c1
      have e1 : encT sa.el[i] = (D.agg [.int .i64 (sa.el[i]).form,.int .i64 (sa.el[i]).n,.bool (sa.el[i]).hid,.str (sa.el[i]).name,slD 2 encL (sa.el[i]).levels,slD 6 encT (sa.el[i]).kids]) := encT_eq _
      have e2 : encT sb.el[i] = (D.agg [.int .i64 (sb.el[i]).form,.int .i64 (sb.el[i]).n,.bool (sb.el[i]).hid,.str (sb.el[i]).name,slD 2 encL (sb.el[i]).levels,slD 6 encT (sb.el[i]).kids]) := encT_eq _
      unfold l31_0
      simp (disch:=first|assumption|omega|(simp (disch:=first|assumption|omega) only [sB,Nat.reduceAdd,Nat.reduceLT,Nat.reduceLeDiff,Nat.reduceEqDiff,Nat.reduceMul,↓reduceIte,hG,gd_nil,hi'];done)|fail) only [sA,↓reduceIte,Nat.reduceLT,Nat.reduceEqDiff,Nat.reduceAdd,Nat.reduceLeDiff,q0,q1,q5,e1,e2,c1,c2,hky,hG,gd_nil,hi']
      exact ⟨_,_,_,_,rfl,.inl ⟨rfl,H.mono (by omega),by simp (disch:=first|assumption|omega|(simp (disch:=first|assumption|omega) only [sB,Nat.reduceAdd,Nat.reduceLT,Nat.reduceLeDiff,Nat.reduceEqDiff,Nat.reduceMul,↓reduceIte];done)|fail) only [sA,↓reduceIte,Nat.reduceLT,Nat.reduceEqDiff,Nat.reduceAdd,Nat.reduceLeDiff,q0],by simp (disch:=first|assumption|omega|(simp (disch:=first|assumption|omega) only [sB,Nat.reduceAdd,Nat.reduceLT,Nat.reduceLeDiff,Nat.reduceEqDiff,Nat.reduceMul,↓reduceIte];done)|fail) only [sA,↓reduceIte,Nat.reduceLT,Nat.reduceEqDiff,Nat.reduceAdd,Nat.reduceLeDiff,q1],by simp (disch:=first|assumption|omega|(simp (disch:=first|assumption|omega) only [sB,Nat.reduceAdd,Nat.reduceLT,Nat.reduceLeDiff,Nat.reduceEqDiff,Nat.reduceMul,↓reduceIte];done)|fail) only [sA,↓reduceIte,Nat.reduceLT,Nat.reduceEqDiff,Nat.reduceAdd,Nat.reduceLeDiff]⟩⟩)
    ⟨H0.mono (by omega),by simp (disch:=first|assumption|omega|(simp (disch:=first|assumption|omega) only [sB,Nat.reduceAdd,Nat.reduceLT,Nat.reduceLeDiff,Nat.reduceEqDiff,Nat.reduceMul,↓reduceIte];done)|fail) only [sA,↓reduceIte,Nat.reduceLT,Nat.reduceEqDiff,Nat.reduceAdd,Nat.reduceLeDiff],by simp (disch:=first|assumption|omega|(simp (disch:=first|assumption|omega) only [sB,Nat.reduceAdd,Nat.reduceLT,Nat.reduceLeDiff,Nat.reduceEqDiff,Nat.reduceMul,↓reduceIte];done)|fail) only [sA,↓reduceIte,Nat.reduceLT,Nat.reduceEqDiff,Nat.reduceAdd,Nat.reduceLeDiff],by simp (disch:=first|assumption|omega|(simp (disch:=first|assumption|omega) only [sB,Nat.reduceAdd,Nat.reduceLT,Nat.reduceLeDiff,Nat.reduceEqDiff,Nat.reduceMul,↓reduceIte];done)|fail) only [sA,↓reduceIte,Nat.reduceLT,Nat.reduceEqDiff,Nat.reduceAdd,Nat.reduceLeDiff]⟩
  simp (disch:=first|assumption|omega|(simp (disch:=first|assumption|omega) only [sB,Nat.reduceAdd,Nat.reduceLT,Nat.reduceLeDiff,Nat.reduceEqDiff,Nat.reduceMul,↓reduceIte];done)|fail) only [sA,↓reduceIte,Nat.reduceLT,Nat.reduceEqDiff,Nat.reduceAdd,Nat.reduceLeDiff,finish_flat (d := .bool true) rfl (HG.mono (show nz ≤ nz + 1 by omega))]
theorem aliveV : callFn (LX (cFk kT Try.prog)) 3 [] [] ((cFk kT Try.prog) 26) = .ok (.bool true) 3 [] := by
  have h : callFn (exec (tT4.look (cFk kT Try.prog)) 1000) 3 [] [] (tT4.look (cFk kT Try.prog) 26) = .ok (.bool true) 3 [] := by kernel_rfl
  rw [Tb.look_eq tT4_ok] at h
  exact callFn_LX _ h
end Go.Proofs.Ytdijijblccmfbaa

/- TeleSpine: what stands at the head of a row,and its arguments. Condition: what is handed in is of bulk at most 1048576. -/
namespace Go.Proofs.Ytdijijblccmfbaa
open Go Go.ChangeShapes Go.WideShapes Go.ChangeAt Go.RowKit

theorem leve_arg {H : Type} (f : Nat) (x : DataW H) (h : Fit Try.prog f 65 x) : ∃ l : SLev,dVal Try.prog f 65 x = encL l ∧ (Rows.uptoBulk x ≤ 1048576 → l.vs.el.length ≤ 1048576) := by
  obtain ⟨g,a,b,rfl,rfl,h1,h2,h4⟩ := struct2 Try.underlying65 h
  obtain ⟨i,e1,_⟩ := int_arg Try.underlying3 h1
  obtain ⟨s,e2,_,n5⟩ := slice_arg (k := 2) (enc := encV) (R := fun _ _ => True) Try.underlying63 (by kernel_rfl) h2 (fun g' y _ hy => lvar_arg g' y hy)
  refine ⟨⟨i,s⟩,?_,fun hb => ?_⟩
  · rw [h4]
    show D.agg (cells (dVal _ g 3 a) ++ cells (dVal _ g 63 b)) = _
    rw [e1,e2,cells_int,cells_slD]
    rfl
  · rw [bulk_agg,bulk_cons,bulk_cons,bulk_nil] at hb
    show s.el.length ≤ _
    rcases n5 with ⟨_,h8,_⟩ | ⟨es,sp,rfl,h8,_⟩
    · rw [h8]; simp
    · have := h8.len
      rw [bulk_slice] at hb
      have := bulk_len es
      omega
theorem tmd_arg {H : Type} : ∀ (f : Nat) (x : DataW H),Fit Try.prog f 25 x → ∃ t : Tm,dVal Try.prog f 25 x = encT t ∧ saneT t.abs = true ∧ (Rows.uptoBulk x ≤ 1048576 → fewT t.abs = true ∧ sizeT1 t.abs = true) := by
  intro f
  induction f using Nat.strongRecOn with
  | _ f ih =>
  intro x h
  obtain ⟨g,a,b,c,d,e,k,rfl,rfl,h1,h2,h3,h4,h5,h6,h7⟩ := struct6 Try.underlying25 h
  obtain ⟨i,e1,_⟩ := int_arg Try.underlying3 h1
  obtain ⟨j,e2,_⟩ := int_arg Try.underlying3 h2
  obtain ⟨q,e3⟩ := bool_arg Try.underlying4 h3
  obtain ⟨l,rfl,e4,_⟩ := str_arg Try.underlying9 h4
  obtain ⟨ls,e5,m5,n5⟩ := slice_arg (k := 2) (enc := encL) (R := fun l y => Rows.uptoBulk y ≤ 1048576 → l.vs.el.length ≤ 1048576) Try.underlying22 (by kernel_rfl) h5 (fun g' y _ hy => leve_arg g' y hy)
  obtain ⟨s,e6,m6,m7⟩ := slice_arg (k := 6) (enc := encT) (R := fun t y => saneT t.abs = true ∧ (Rows.uptoBulk y ≤ 1048576 → fewT t.abs = true ∧ sizeT1 t.abs = true)) Try.underlying23 (by kernel_rfl) h6 (fun g' y hg hy => by
    obtain ⟨t,e,hs⟩ := ih g' (by omega) y hy
    exact ⟨t,e,hs⟩)
  refine ⟨.mk i j q (l.map UInt8.toNat) ls s.nil s.full s.el s.sp,?_,?_,?_⟩
  · rw [h7,encT_eq]
    show D.agg (cells (dVal _ g 3 a) ++ (cells (dVal _ g 3 b) ++ (cells (dVal _ g 4 c) ++ (cells (dVal _ g 9 _) ++ (cells (dVal _ g 22 e) ++ cells (dVal _ g 23 k)))))) = _
    rw [e1,e2,e3,e4,e5,e6,cells_int,cells_int,cells_bool,cells_str,cells_slD,cells_slD]
    rfl
  · refine (sane_eq _).2 ⟨?_,?_⟩
    · rw [abs_levels,abs_kids,List.length_map,List.length_map]
      show ls.el.length ≤ _ ∧ s.el.length ≤ _
      have : maxLen = 9223372036854775807 := rfl
      omega
    · rw [abs_kids]
      intro k hk
      obtain ⟨y,hy,rfl⟩ := List.mem_map.1 hk
      replace hy : y ∈ s.el := hy
      rcases m7 with ⟨_,h8,_⟩ | ⟨es,sp,_,h8,_⟩
      · rw [h8] at hy; cases hy
      · obtain ⟨_,_,h9⟩ := h8.mem y hy
        exact h9.1
  · intro hb
    rw [bulk_agg,bulk_cons,bulk_cons,bulk_cons,bulk_cons,bulk_cons,bulk_cons,bulk_nil] at hb
    have kl : ls.el.length ≤ 1048576 ∧ ∀ y,y ∈ ls.el → y.vs.el.length ≤ 1048576 := by
      rcases n5 with ⟨_,h8,_⟩ | ⟨es,sp,rfl,h8,_⟩
      · rw [h8]; exact ⟨by simp,fun y hy => (by cases hy)⟩
      · rw [bulk_slice] at hb
        refine ⟨by have := h8.len; have := bulk_len es; omega,fun y hy => ?_⟩
        obtain ⟨z,hz,h9⟩ := h8.mem y hy
        have := bulk_mem hz
        exact h9 (by omega)
    have kk : s.el.length ≤ 1048576 ∧ ∀ y,y ∈ s.el → fewT y.abs = true ∧ sizeT1 y.abs = true := by
      rcases m7 with ⟨_,h8,_⟩ | ⟨es,sp,rfl,h8,_⟩
      · rw [h8]; exact ⟨by simp,fun y hy => (by cases hy)⟩
      · rw [bulk_slice] at hb
        refine ⟨by have := h8.len; have := bulk_len es; omega,fun y hy => ?_⟩
        obtain ⟨z,hz,h9⟩ := h8.mem y hy
        have := bulk_mem hz
        exact h9.2 (by omega)
    refine ⟨(few_eq _).2 ⟨?_,?_⟩,(size1_eq _).2 ⟨⟨⟨?_,?_⟩,?_⟩,?_⟩⟩
    · rw [abs_levels,List.length_map]; show ls.el.length ≤ _; omega
    · rw [abs_kids]
      intro k hk
      obtain ⟨y,hy,rfl⟩ := List.mem_map.1 hk
      exact (kk.2 y hy).1
    · rw [abs_levels,List.length_map]; show ls.el.length ≤ _; omega
    · rw [abs_kids,List.length_map]; show s.el.length ≤ _; omega
    · rw [abs_levels]
      intro x hx
      obtain ⟨y,hy,rfl⟩ := List.mem_map.1 hx
      have := kl.2 y hy
      show y.vs.el.length ≤ _
      omega
    · rw [abs_kids]
      intro k hk
      obtain ⟨y,hy,rfl⟩ := List.mem_map.1 hk
      exact (kk.2 y hy).2
theorem made_el {α : Type} {l : List α} : (Sl.made l).el = l := eqOf rfl
theorem leak_no (h : Hps) : Ytdijijblccmfbaa.leak 0 h = false := by
  induction h with
  | nil => rfl
  | cons p t ih => rw [show p = (p.1,p.2) from rfl,leak_new (Nat.zero_le _)]; exact ih
theorem good_pts {t : Trm} (h : checkT t = 0) : formedT t = true ∧ sizeT t ≤ 20000 ∧ highT t ≤ 500 := by
  have h1 := check_ok.1 h
  unfold goodT fitsT at h1
  rw [Bool.and_eq_true,decide_eq_true_iff] at h1
  exact ⟨h1.2,h1.1⟩
end Go.Proofs.Ytdijijblccmfbaa

/- TeleSpine: what stands at the head of a row,and its arguments. Condition: what is handed in is of bulk at most 1048576. -/
namespace Go.Proofs.Ytdijijblccmfbaa
open Go Go.ChangeShapes Go.WideShapes Go.ChangeAt Go.RowKit

end Go.Proofs.Ytdijijblccmfbaa
set_option linter.unusedSimpArgs false
set_option linter.unusedVariables false
namespace Go.Proofs.Ytdijijblccmfbaa
open Go

theorem clean_form (t : Trm) : (cleanT t).form = t.form := by cases t; rw [clean_eq]; rfl
theorem clean_kids (t : Trm) : (cleanT t).kids = t.kids.map cleanT := by cases t; rw [clean_eq]; rfl
theorem clean_clean : ∀ t : Trm,cleanT (cleanT t) = cleanT t := by
  refine Trm.ind ?_
  intro t ih
  obtain ⟨f,n,h,nm,ls,ks⟩ := t
  rw [clean_eq,clean_eq,List.map_map]
  have : ks.map (cleanT ∘ cleanT) = ks.map cleanT := List.map_congr_left fun k hk => ih k hk
  rw [this]
  congr 1 <;> split <;> rfl
theorem clean_size : ∀ t : Trm,sizeT (cleanT t) = sizeT t := by
  refine Trm.ind ?_
  intro t ih
  rw [sizeT_eq,sizeT_eq,clean_kids]
  congr 1
  have key : ∀ l : List Trm,(∀ k,k ∈ l → k ∈ t.kids) → sizeTs (l.map cleanT) = sizeTs l := by
    intro l
    induction l with
    | nil => intro _; rfl
    | cons k l ihl => intro hm; rw [List.map_cons,sizeTs_cons,sizeTs_cons,ih k (hm k (by simp)),ihl (fun q hq => hm q (by simp [hq]))]
  exact key _ fun _ h => h
theorem clean_high : ∀ t : Trm,highT (cleanT t) = highT t := by
  refine Trm.ind ?_
  intro t ih
  rw [highT_eq,highT_eq,clean_kids]
  congr 1
  have key : ∀ l : List Trm,(∀ k,k ∈ l → k ∈ t.kids) → highTs (l.map cleanT) = highTs l := by
    intro l
    induction l with
    | nil => intro _; rfl
    | cons k l ihl => intro hm; rw [List.map_cons,highTs_cons,highTs_cons,ih k (hm k (by simp)),ihl (fun q hq => hm q (by simp [hq]))]
  exact key _ fun _ h => h
theorem clean_part (t : Trm) : partOk (cleanT t) = partOk t := by
  obtain ⟨f,n,h,nm,ls,ks⟩ := t
  rw [clean_eq]
  unfold partOk
  show (decide (kidsN f = ((ks.map cleanT).length : Int)) && (if f = 1 ∨ f = 11 then decide (0 ≤ (if f = 1 ∨ f = 11 then n else 0) ∧ (if f = 1 ∨ f = 11 then n else 0) ≤ 1073741824) else if f = 7 then decide ((ks.map cleanT).head?.map Trm.form = some 6) else if f = 2 then decide ((if f = 2 ∨ f = 10 then ls else []).length = 1) && (if f = 2 ∨ f = 10 then ls else []).all Lev.canon else if f = 10 then decide ((if f = 10 then nm else []) ≠ [] ∧ (if f = 10 then nm else []).length ≤ 60) && (if f = 2 ∨ f = 10 then ls else []).all Lev.canon else true)) =
    (decide (kidsN f = (ks.length : Int)) && (if f = 1 ∨ f = 11 then decide (0 ≤ n ∧ n ≤ 1073741824) else if f = 7 then decide (ks.head?.map Trm.form = some 6) else if f = 2 then decide (ls.length = 1) && ls.all Lev.canon else if f = 10 then decide (nm ≠ [] ∧ nm.length ≤ 60) && ls.all Lev.canon else true))
  rw [List.length_map]
  congr 1
  by_cases h1 : f = 1 ∨ f = 11
  · rw [if_pos h1,if_pos h1,if_pos h1]
  · rw [if_neg h1,if_neg h1]
    by_cases h2 : f = 7
    · rw [if_pos h2,if_pos h2]
      cases ks with
      | nil => rfl
      | cons k t => rw [List.map_cons,List.head?_cons,List.head?_cons,Option.map_some,Option.map_some,clean_form]
    · rw [if_neg h2,if_neg h2]
      by_cases h3 : f = 2
      · rw [if_pos h3,if_pos h3,if_pos (Or.inl h3)]
      · rw [if_neg h3,if_neg h3]
        by_cases h4 : f = 10
        · rw [if_pos h4,if_pos h4,if_pos h4,if_pos (Or.inr h4)]
        · rw [if_neg h4,if_neg h4]
theorem clean_formed : ∀ t : Trm,formedT (cleanT t) = formedT t := by
  refine Trm.ind ?_
  intro t ih
  rw [formedT_eq,formedT_eq,clean_part,clean_kids,List.all_map]
  congr 1
  have key : ∀ l : List Trm,(∀ k,k ∈ l → k ∈ t.kids) → l.all (formedT ∘ cleanT) = l.all formedT := by
    intro l
    induction l with
    | nil => intro _; rfl
    | cons k l ihl =>
      intro hm
      rw [List.all_cons,List.all_cons,ihl (fun q hq => hm q (by simp [hq])),Function.comp_apply,ih k (hm k (by simp))]
  exact key _ fun _ h => h
theorem clean_check (t : Trm) : checkT (cleanT t) = checkT t := by unfold checkT fitsT; rw [clean_size,clean_high,clean_formed]
end Go.Proofs.Ytdijijblccmfbaa
set_option linter.unusedSimpArgs false
set_option linter.unusedVariables false
namespace Go.Proofs.Ytdijijblccmfbaa
open Go

def mkT (f : Int) (b : Bool) (a t : Tm) : Tm := .mk f 0 b [] ⟨true,true,[],[]⟩ false true [a,t] []
theorem mkT_enc (f : Int) (b : Bool) (a t : Tm) : encT (mkT f b a t) = .agg [.int .i64 f,.int .i64 0,.bool b,.str [],.nils,.sl 6 [encT a,encT t] [] true] := by unfold mkT; rw [encT_eq]; rfl
theorem mkT_abs (f : Int) (b : Bool) (a t : Tm) : (mkT f b a t).abs = .mk f 0 b [] [] [a.abs,t.abs] := by unfold mkT; rw [abs_eq]; rfl
def pisM (hid : Nat → Bool) : List Tm → Nat → Tm → Tm
  | [],_,t => t
  | a :: l,i,t => mkT 3 (hid i) a (pisM hid l (i + 1) t)
def appM (hid : Nat → Bool) : List Tm → Nat → Tm → Tm
  | [],_,f => f
  | a :: l,i,f => appM hid l (i + 1) (mkT 5 (hid i) f a)
theorem appM_snoc (hid : Nat → Bool) (a : Tm) : ∀ (l : List Tm) (i : Nat) (f : Tm),appM hid (l ++ [a]) i f = mkT 5 (hid (i + l.length)) (appM hid l i f) a
  | [],i,f => rfl
  | b :: l,i,f => by
    rw [List.cons_append,appM,appM_snoc hid a l,appM,List.length_cons]
    congr 2
    omega
theorem spn_appM (hid : Nat → Bool) : ∀ (l : List Tm) (i : Nat) (f : Tm),(spn (appM hid l i f)).2.1 = (spn f).2.1 ++ l
  | [],i,f => by rw [appM,List.append_nil]
  | a :: l,i,f => by
    rw [appM,spn_appM hid l,spn_app (t := mkT 5 (hid i) f a) (k0 := f) (k1 := a) rfl rfl,List.append_assoc]
    rfl
theorem spn_clean : ∀ (m : Nat) (c t : Tm),sizeT t.abs ≤ m → c.abs = cleanT t.abs → formedT t.abs = true → (spn c).2.1.map Tm.abs = (spn t).2.1.map fun x => cleanT x.abs := by
  intro m
  induction m using Nat.strongRecOn with
  | _ m ih =>
  intro c t hm hc hf
  have hform : c.form = t.form := by rw [← abs_form c,hc,clean_form,abs_form]
  by_cases h5 : t.form = 5
  · obtain ⟨k0,k1,hk,f0,z0⟩ := kids_two h5 hf
    have hck : c.kids.el.map Tm.abs = [cleanT k0.abs,cleanT k1.abs] := by rw [← abs_kids,hc,clean_kids,abs_kids,hk]; rfl
    obtain ⟨c0,c1,hc2,e0,e1⟩ : ∃ c0 c1,c.kids.el = [c0,c1] ∧ c0.abs = cleanT k0.abs ∧ c1.abs = cleanT k1.abs := by
      cases hce : c.kids.el with
      | nil => rw [hce] at hck; simp at hck
      | cons c0 r =>
        cases r with
        | nil => rw [hce] at hck; simp at hck
        | cons c1 r2 =>
          cases r2 with
          | nil => rw [hce] at hck; injection hck with a b; injection b with b _; exact ⟨c0,c1,rfl,a,b⟩
          | cons _ _ => rw [hce] at hck; simp at hck
    rw [spn_app (by rw [hform]; exact h5) hc2,spn_app h5 hk]
    show ((spn c0).2.1 ++ [c1]).map Tm.abs = ((spn k0).2.1 ++ [k1]).map _
    rw [List.map_append,List.map_append,ih (sizeT k0.abs) (by omega) c0 k0 (Nat.le_refl _) e0 f0]
    show _ ++ [c1.abs] = _ ++ [cleanT k1.abs]
    rw [e1]
  · rw [spn_head (by rw [hform]; exact h5),spn_head h5]; rfl
def askE : List Tm → Int
  | [] => 0
  | t :: l => if checkT t.abs = 0 then askE l else checkT t.abs
theorem askE_zero : ∀ {l : List Tm},askE l = 0 → ∀ t,t ∈ l → checkT t.abs = 0
  | [],_,t,ht => by cases ht
  | a :: l,h,t,ht => by
    rw [askE] at h
    split at h
    · rename_i h1
      rcases List.mem_cons.1 ht with rfl | ht
      · exact h1
      · exact askE_zero h t ht
    · rename_i h1; exact absurd h h1

theorem few_mk {f : Int} {b : Bool} {a t : Tm} (ha : fewT a.abs = true) (ht : fewT t.abs = true) : fewT (mkT f b a t).abs = true := by
  rw [mkT_abs]
  refine (few_eq _).2 ⟨Nat.zero_le _,fun k hk => ?_⟩
  rcases List.mem_cons.1 hk with rfl | hk
  · exact ha
  · rw [List.mem_singleton.1 hk]; exact ht
theorem sane_mk {f : Int} {b : Bool} {a t : Tm} (ha : saneT a.abs = true) (ht : saneT t.abs = true) : saneT (mkT f b a t).abs = true := by
  rw [mkT_abs]
  refine (sane_eq _).2 ⟨⟨Nat.zero_le _,by show 2 ≤ _; omega⟩,fun k hk => ?_⟩
  rcases List.mem_cons.1 hk with rfl | hk
  · exact ha
  · rw [List.mem_singleton.1 hk]; exact ht
theorem of_pis {p : Trm → Bool} (hm : ∀ b a t,p a.abs = true → p t.abs = true → p (mkT 3 b a t).abs = true) (hid : Nat → Bool) : ∀ (l : List Tm) (i : Nat) (t : Tm),(∀ x,x ∈ l → p x.abs = true) → p t.abs = true → p (pisM hid l i t).abs = true
  | [],_,_,_,ht => ht
  | a :: l,i,t,hl,ht => hm _ _ _ (hl a (by simp)) (of_pis hm hid l (i + 1) t (fun x hx => hl x (by simp [hx])) ht)
theorem of_app {p : Trm → Bool} (hm : ∀ b a t,p a.abs = true → p t.abs = true → p (mkT 5 b a t).abs = true) (hid : Nat → Bool) : ∀ (l : List Tm) (i : Nat) (t : Tm),(∀ x,x ∈ l → p x.abs = true) → p t.abs = true → p (appM hid l i t).abs = true
  | [],_,_,_,ht => ht
  | a :: l,i,t,hl,ht => of_app hm hid l (i + 1) _ (fun x hx => hl x (by simp [hx])) (hm _ _ _ ht (hl a (by simp)))
theorem clean_mk (f : Int) (b : Bool) (a t : Tm) : (cleanT (mkT f b a t).abs).kids = [cleanT a.abs,cleanT t.abs] := by rw [mkT_abs,clean_kids]; rfl
theorem two_of {c a t : Tm} {f : Int} {b : Bool} (h : c.abs = cleanT (mkT f b a t).abs) : c.form = f ∧ ∃ x y,c.kids.el = [x,y] ∧ x.abs = cleanT a.abs ∧ y.abs = cleanT t.abs := by
  refine ⟨by rw [← abs_form c,h,clean_form,mkT_abs]; rfl,?_⟩
  have hk : c.kids.el.map Tm.abs = [cleanT a.abs,cleanT t.abs] := by rw [← abs_kids,h,clean_mk]
  match hc : c.kids.el,hk with
  | [],hk => cases hk
  | [_],hk => simp at hk
  | [x,y],hk => injection hk with h1 h2; injection h2 with h2 _; exact ⟨x,y,rfl,h1,h2⟩
  | _ :: _ :: _ :: _,hk => simp at hk
def splitM : Nat → Tm → List Tm × List Bool × Tm
  | 0,a => ([],[],a)
  | k + 1,a => match a.kids.el with
    | [x,y] => (copyM x :: (splitM k y).1,a.hid :: (splitM k y).2.1,(splitM k y).2.2)
    | _ => ([],[],a)
theorem splitM_two {k : Nat} {a x y : Tm} (h : a.kids.el = [x,y]) : splitM (k + 1) a = (copyM x :: (splitM k y).1,a.hid :: (splitM k y).2.1,(splitM k y).2.2) := by rw [splitM,h]
theorem split_pis (hid : Nat → Bool) : ∀ (l : List Tm) (i : Nat) (t c : Tm),c.abs = cleanT (pisM hid l i t).abs → formedT c.abs = true → sizeT c.abs ≤ 20000 →
    (splitM l.length c).1.map Tm.abs = l.map (fun x => cleanT x.abs) ∧ (splitM l.length c).2.1.length = l.length ∧ (splitM l.length c).2.2.abs = cleanT t.abs ∧ formedT (splitM l.length c).2.2.abs = true ∧ sizeT (splitM l.length c).2.2.abs ≤ 20000
  | [],i,t,c,h,hf,hs => ⟨rfl,rfl,h,hf,hs⟩
  | a :: l,i,t,c,h,hf,hs => by
    obtain ⟨_,x,y,hk,hx,hy⟩ := two_of h
    have hsz := size_abs c
    rw [hk,List.map_cons,List.map_cons,List.map_nil,sizeTs_cons,sizeTs_cons,sizeTs_nil] at hsz
    have fk : ∀ k,k ∈ c.abs.kids → formedT k = true := by
      have h2 := hf
      rw [formedT_eq,Bool.and_eq_true,List.all_eq_true] at h2
      exact h2.2
    have fx : formedT x.abs = true := fk _ (by rw [abs_kids,hk]; simp)
    have fy : formedT y.abs = true := fk _ (by rw [abs_kids,hk]; simp)
    obtain ⟨r1,r2,r3,r4,r5⟩ := split_pis hid l (i + 1) t y hy fy (by omega)
    rw [List.length_cons,splitM_two hk]
    refine ⟨?_,by show _ + 1 = _ + 1; rw [r2],r3,r4,r5⟩
    show (copyM x).abs :: _ = _ :: _
    rw [copy_abs x fx (by omega),hx,clean_clean,r1]
theorem few_clean : ∀ t : Trm,fewT t = true → fewT (cleanT t) = true := by
  refine Trm.ind ?_
  intro t ih h
  obtain ⟨h1,h2⟩ := (few_eq t).1 h
  rw [clean_tidy]
  refine (few_eq _).2 ⟨?_,fun k hk => ?_⟩
  · show (if t.form = 2 ∨ t.form = 10 then t.levels else []).length ≤ _
    split
    · exact h1
    · simp
  · obtain ⟨x,hx,rfl⟩ := List.mem_map.1 hk
    exact ih x hx (h2 x hx)
theorem sane_of : ∀ t : Trm,formedT t = true → fewT t = true → saneT t = true := by
  refine Trm.ind ?_
  intro t ih hf hw
  rw [formedT_eq,Bool.and_eq_true,List.all_eq_true] at hf
  obtain ⟨w1,w2⟩ := (few_eq t).1 hw
  have h3 := part_len hf.1
  have hk : kidsN t.form ≤ 3 := kidsN_le _
  exact (sane_eq _).2 ⟨⟨by omega,by omega⟩,fun k hk => ih k hk (hf.2 k hk) (w2 k hk)⟩
inductive Lams : Nat → Tm → Prop
  | zero (a : Tm) : Lams 0 a
  | succ {k : Nat} {a x y : Tm} : a.form = 3 → a.kids.el = [x,y] → slimT x.abs = true → sizeT x.abs ≤ 100000 → highT x.abs ≤ 100000 → Lams k y → Lams (k + 1) a
theorem lams_of (hid : Nat → Bool) : ∀ (l : List Tm) (i : Nat) (t c : Tm),c.abs = cleanT (pisM hid l i t).abs → formedT c.abs = true → fewT c.abs = true → sizeT c.abs ≤ 20000 → highT c.abs ≤ 500 → Lams l.length c
  | [],_,_,c,_,_,_,_,_ => .zero c
  | a :: l,i,t,c,h,hf,hw,hs,hh => by
    obtain ⟨h3,x,y,hk,hx,hy⟩ := two_of h
    have hsz := size_abs c
    rw [hk,List.map_cons,List.map_cons,List.map_nil,sizeTs_cons,sizeTs_cons,sizeTs_nil] at hsz
    have fk : ∀ k,k ∈ c.abs.kids → formedT k = true := by
      have h2 := hf
      rw [formedT_eq,Bool.and_eq_true,List.all_eq_true] at h2
      exact h2.2
    have wk := ((few_eq _).1 hw).2
    have mx : x.abs ∈ c.abs.kids := by rw [abs_kids,hk]; simp
    have my : y.abs ∈ c.abs.kids := by rw [abs_kids,hk]; simp
    have hx1 := high_kid (t := c) (k := x) (by rw [hk]; simp)
    have hy1 := high_kid (t := c) (k := y) (by rw [hk]; simp)
    exact .succ h3 hk (slim_of _ (fk _ mx) (wk _ mx)) (by omega) (by omega) (lams_of hid l (i + 1) t y hy (fk _ my) (wk _ my) (by omega) (by omega))
end Go.Proofs.Ytdijijblccmfbaa
set_option linter.unusedSimpArgs false
set_option linter.unusedVariables false
namespace Go.Proofs.Ytdijijblccmfbaa
open Go

theorem pBind (f : Int) (b : Bool) (a t : Tm) (n : Nat) (h : Hps) (hg : Gd n h) : callFn (LX (cFk kT Try.prog)) n h [.int .i64 f,.bool b,(D.agg [.int .i64 (a).form,.int .i64 (a).n,.bool (a).hid,.str (a).name,slD 2 encL (a).levels,slD 6 encT (a).kids]),(D.agg [.int .i64 (t).form,.int .i64 (t).n,.bool (t).hid,.str (t).name,slD 2 encL (t).levels,slD 6 encT (t).kids])] (cFk kT Try.prog 104) = .ok (encT (mkT f b a t)) n h := by
  have hgn := hg n (Nat.le_refl _)
  rw [mkT_enc,encT_eq,encT_eq]
  rw [f104_eq]; unfold c104; rw [callFn_eq (by rfl)]
  simp (disch:=first|assumption|omega|(simp (disch:=first|assumption|omega) only [sB,Nat.reduceAdd,Nat.reduceLT,Nat.reduceLeDiff,Nat.reduceEqDiff,Nat.reduceMul,↓reduceIte];done)|fail) only [sA,↓reduceIte,Nat.reduceLT,Nat.reduceEqDiff,Nat.reduceAdd,Nat.reduceLeDiff]
theorem cap_fin {n m k q : Nat} {h : Hps} {d : D} (hg : ∀ k,n ≤ k → GoodAt k h) (hf : flat d = true) (hp : flat2 d = true) (hok : okE k d = true) : finishD n m ((n,.row k [d]) :: h) (.fn q [] [.ptr n 0 0]) = .ok (.fn q [] [.ip d 0]) n h := by
  have H0 : Hp n h (n + 1) ((n,.row k [d]) :: h) := (Hp.start hg).box (Nat.le_refl _) (by omega) hf
  have hA : frz ((n,.row k [d]) :: h) n 58 d = d := (plain2 56 hp).frz _ _
  have hfr : frz ((n,.row k [d]) :: h) n 60 (.fn q [] [.ptr n 0 0]) = .fn q [] [.ip d 0] := by
    show D.fn q [] [Bool.rec (motive := fun _ => D) (frzP (frz ((n,.row k [d]) :: h) n 58) 0 0 (getO ((n,.row k [d]) :: h) n)) (.ptr n 0 0) (Nat.blt n n)] = _
    rw [blt_iff,decide_eq_false (Nat.lt_irrefl _),getO_hd]
    show D.fn q [] [Bool.rec (motive := fun _ => D) .junk (.ip (frz ((n,.row k [d]) :: h) n 58 d) 0) (okE k (frz ((n,.row k [d]) :: h) n 58 d))] = _
    rw [hA,hok]
  show Bool.rec (motive := fun _ => Rd) (finishF n m ((n,.row k [d]) :: h) _ (frz ((n,.row k [d]) :: h) n 60 (.fn q [] [.ptr n 0 0]))) (.ok _ m ((n,.row k [d]) :: h)) (leak n ((n,.row k [d]) :: h)) = _
  rw [H0.leak,hfr]
  show Rd.ok (.fn q [] [.ip d 0]) n (dropFrom n ((n,.row k [d]) :: h)) = _
  rw [H0.drop]
def hidB (s : Sl Bool) (i : Nat) : Bool := if h : i < s.el.length then s.el[i] else false
theorem pHidden (s : Sl Bool) (n : Nat) (h : Hps) (hg : Gd n h) : callFn (LX (cFk kT Try.prog)) n h [slD 1 encB s] (cFk kT Try.prog 74) = .ok (.fn 105 [] [.ip (slD 1 encB s) 0]) n h := by
  have hgn := hg n (Nat.le_refl _)
  have fin := fun m => cap_fin (m := m) (q := 105) (k := 1) (d := slD 1 encB s) hg flat_slD flat2_slD (by rw [okE_slD]; rfl)
  rw [f74_eq]; unfold c74; rw [callFn_eq (by rfl)]
  simp (disch:=first|assumption|omega|(simp (disch:=first|assumption|omega) only [sB,Nat.reduceAdd,Nat.reduceLT,Nat.reduceLeDiff,Nat.reduceEqDiff,Nat.reduceMul,↓reduceIte];done)|fail) only [sA,↓reduceIte,Nat.reduceLT,Nat.reduceEqDiff,Nat.reduceAdd,Nat.reduceLeDiff,fin]
theorem pInwards (s : Sl Tm) (n : Nat) (h : Hps) (hg : Gd n h) : callFn (LX (cFk kT Try.prog)) n h [slD 6 encT s] (cFk kT Try.prog 103) = .ok (.fn 123 [] [.ip (slD 6 encT s) 0]) n h := by
  have hgn := hg n (Nat.le_refl _)
  have fin := fun m => cap_fin (m := m) (q := 123) (k := 1) (d := slD 6 encT s) hg flat_slD flat2_slD (by rw [okE_slD]; rfl)
  rw [f103_eq]; unfold c103; rw [callFn_eq (by rfl)]
  simp (disch:=first|assumption|omega|(simp (disch:=first|assumption|omega) only [sB,Nat.reduceAdd,Nat.reduceLT,Nat.reduceLeDiff,Nat.reduceEqDiff,Nat.reduceMul,↓reduceIte];done)|fail) only [sA,↓reduceIte,Nat.reduceLT,Nat.reduceEqDiff,Nat.reduceAdd,Nat.reduceLeDiff,fin]
theorem load_sl {α : Type} {k m : Nat} {enc : α → D} {s : Sl α} {h : Hps} : loadD false 1 m h (.ip (slD k enc s) 0) = .ok (slD k enc s) m h := by
  rcases slD_isSl k enc s with ⟨h1,_⟩ | ⟨_,_,h1⟩ <;> rw [h1] <;> rfl
theorem pHid (s : Sl Bool) (i : Nat) (n : Nat) (h : Hps) (hg : Gd n h) : callFn (LX (cFk kT Try.prog)) n h [.int .i64 (i : Nat),.ip (slD 1 encB s) 0] (cFk kT Try.prog 105) = .ok (.bool (hidB s i)) n h := by
  have hgn := hg n (Nat.le_refl _)
  unfold hidB
  rw [f105_eq]; unfold c105; rw [callFn_eq (by rfl)]
  by_cases hi : i < s.el.length
  · rw [dif_pos hi]
    simp (disch:=first|assumption|omega|(simp (disch:=first|assumption|omega) only [sB,Nat.reduceAdd,Nat.reduceLT,Nat.reduceLeDiff,Nat.reduceEqDiff,Nat.reduceMul,↓reduceIte];done)|fail) only [sA,↓reduceIte,Nat.reduceLT,Nat.reduceEqDiff,Nat.reduceAdd,Nat.reduceLeDiff,load_sl,encB]
  · rw [dif_neg hi]
    simp (disch:=first|assumption|omega|(simp (disch:=first|assumption|omega) only [sB,Nat.reduceAdd,Nat.reduceLT,Nat.reduceLeDiff,Nat.reduceEqDiff,Nat.reduceMul,↓reduceIte];done)|fail) only [sA,↓reduceIte,Nat.reduceLT,Nat.reduceEqDiff,Nat.reduceAdd,Nat.reduceLeDiff,load_sl,encB]
set_option maxHeartbeats 4000000 in
theorem pAsk (l : List Tm) (r : Nat) (hs : ∀ x,x ∈ l → saneT x.abs = true) (hl : l.length ≤ 1000000000) (n : Nat) (h : Hps) (hg : Gd n h) (hrn : r < n) (hb : getO h r = .row 6 (l.map encT)) : callFn (LX (cFk kT Try.prog)) n h [.ms 6 r 0 l.length false] (cFk kT Try.prog 73) = .ok (.int .i64 (askE l)) n h := by
  have hgn := hg n (Nat.le_refl _)
  rw [f73_eq]; unfold c73; rw [callFn_eq (by rfl)]
  simp (disch:=first|assumption|omega|(simp (disch:=first|assumption|omega) only [sB,Nat.reduceAdd,Nat.reduceLT,Nat.reduceLeDiff,Nat.reduceEqDiff,Nat.reduceMul,↓reduceIte];done)|fail) only [sA,↓reduceIte,Nat.reduceLT,Nat.reduceEqDiff,Nat.reduceAdd,Nat.reduceLeDiff]
  generalize hB : askE l = B
  generalize hr : LX (cFk kT Try.prog) (.loop l73_0) _ _ _ = r0
  obtain ⟨x,e2,n2,h2,rfl,H2,q⟩ := loop_up hr l.length
    (fun i e n' h' => Hp n h n' h' ∧ askE (l.drop i) = B ∧ get (po 6) e = .ms 6 r 0 l.length false ∧ get (po 7) e = .int .i64 (l.length : Nat) ∧ get (po 8) e = .int .i64 (i : Nat))
    (fun x e n' h' => Hp n h n' h' ∧ ((x = .exit 0 ∧ B = 0) ∨ (x = .ret ∧ get (po 2) e = .int .i64 B)))
    (by
      rintro e n' h' ⟨H,hb',g6,g7,g8⟩
      rw [List.drop_length,askE] at hb'
      unfold l73_0
      simp (disch:=first|assumption|omega|(simp (disch:=first|assumption|omega) only [sB,Nat.reduceAdd,Nat.reduceLT,Nat.reduceLeDiff,Nat.reduceEqDiff,Nat.reduceMul,↓reduceIte];done)|fail) only [sA,↓reduceIte,Nat.reduceLT,Nat.reduceEqDiff,Nat.reduceAdd,Nat.reduceLeDiff,g6,g7,g8]
      exact ⟨_,_,_,_,rfl,by simp,H.mono (by omega),.inl ⟨rfl,hb'.symm⟩⟩)
    (by
      rintro i e n' h' hi ⟨H,hb',g6,g7,g8⟩
      have hle := H.le
      rw [List.drop_eq_getElem_cons hi,askE] at hb'
      have y : getO h' r = .row 6 (l.map encT) := by rw [H.get hrn]; exact hb
      have eg : (l.map encT).getD i .junk = (D.agg [.int .i64 (l[i]).form,.int .i64 (l[i]).n,.bool (l[i]).hid,.str (l[i]).name,slD 2 encL (l[i]).levels,slD 6 encT (l[i]).kids]) := by rw [List.getD_eq_getElem?_getD,List.getElem?_map,List.getElem?_eq_getElem hi]; exact encT_eq _
      have H1 : Hp n h (n' + 13) ((n' + 3,(Ob.row 6 [.agg [.int .i64 (l[i]).form,.int .i64 (l[i]).n,.bool (l[i]).hid,.str (l[i]).name,slD 2 encL (l[i]).levels,slD 6 encT (l[i]).kids]])) :: h') := H.box (r := n' + 3) (m := n' + 13) (by omega) (by omega) (flatTA l[i])
      have c1 : ∀ m h,Gd m h → callFn (LX (cFk kT Try.prog)) m h [(D.agg [.int .i64 (l[i]).form,.int .i64 (l[i]).n,.bool (l[i]).hid,.str (l[i]).name,slD 2 encL (l[i]).levels,slD 6 encT (l[i]).kids])] (cFk kT Try.prog 22) = .ok (.int .i64 (checkT l[i].abs)) m h := pCheck l[i] (hs _ (List.getElem_mem hi))
      have hG : ∀ m,n' ≤ m → Gd m h' := fun m hm k hk => H.good k (by omega)
      unfold l73_0
      by_cases z : checkT l[i].abs = 0
      · rw [if_pos z] at hb'
        simp (disch:=first|assumption|omega|(simp (disch:=first|assumption|omega) only [sB,Nat.reduceAdd,Nat.reduceLT,Nat.reduceLeDiff,Nat.reduceEqDiff,Nat.reduceMul,↓reduceIte,hG,gd_tm];done)|fail) only [sA,↓reduceIte,Nat.reduceLT,Nat.reduceEqDiff,Nat.reduceAdd,Nat.reduceLeDiff,g6,g7,g8,y,iaddr_ms,eg,c1,z,hG,gd_tm]
        exact ⟨_,_,_,_,rfl,.inl ⟨rfl,H1,hb',by simp (disch:=first|assumption|omega|(simp (disch:=first|assumption|omega) only [sB,Nat.reduceAdd,Nat.reduceLT,Nat.reduceLeDiff,Nat.reduceEqDiff,Nat.reduceMul,↓reduceIte];done)|fail) only [sA,↓reduceIte,Nat.reduceLT,Nat.reduceEqDiff,Nat.reduceAdd,Nat.reduceLeDiff,g6],by simp (disch:=first|assumption|omega|(simp (disch:=first|assumption|omega) only [sB,Nat.reduceAdd,Nat.reduceLT,Nat.reduceLeDiff,Nat.reduceEqDiff,Nat.reduceMul,↓reduceIte];done)|fail) only [sA,↓reduceIte,Nat.reduceLT,Nat.reduceEqDiff,Nat.reduceAdd,Nat.reduceLeDiff,g7],by simp (disch:=first|assumption|omega|(simp (disch:=first|assumption|omega) only [sB,Nat.reduceAdd,Nat.reduceLT,Nat.reduceLeDiff,Nat.reduceEqDiff,Nat.reduceMul,↓reduceIte];done)|fail) only [sA,↓reduceIte,Nat.reduceLT,Nat.reduceEqDiff,Nat.reduceAdd,Nat.reduceLeDiff]⟩⟩
      · rw [if_neg z] at hb'
        simp (disch:=first|assumption|omega|(simp (disch:=first|assumption|omega) only [sB,Nat.reduceAdd,Nat.reduceLT,Nat.reduceLeDiff,Nat.reduceEqDiff,Nat.reduceMul,↓reduceIte,hG,gd_tm];done)|fail) only [sA,↓reduceIte,Nat.reduceLT,Nat.reduceEqDiff,Nat.reduceAdd,Nat.reduceLeDiff,g6,g7,g8,y,iaddr_ms,eg,c1,z,hG,gd_tm]
        exact ⟨_,_,_,_,rfl,.inr ⟨by simp,H1,.inr ⟨rfl,by simp (disch:=first|assumption|omega|(simp (disch:=first|assumption|omega) only [sB,Nat.reduceAdd,Nat.reduceLT,Nat.reduceLeDiff,Nat.reduceEqDiff,Nat.reduceMul,↓reduceIte];done)|fail) only [sA,↓reduceIte,Nat.reduceLT,Nat.reduceEqDiff,Nat.reduceAdd,Nat.reduceLeDiff,hb']⟩⟩⟩)
    ⟨(Hp.start hg).mono (by omega),by rw [List.drop_zero]; exact hB,by simp (disch:=first|assumption|omega|(simp (disch:=first|assumption|omega) only [sB,Nat.reduceAdd,Nat.reduceLT,Nat.reduceLeDiff,Nat.reduceEqDiff,Nat.reduceMul,↓reduceIte];done)|fail) only [sA,↓reduceIte,Nat.reduceLT,Nat.reduceEqDiff,Nat.reduceAdd,Nat.reduceLeDiff],by simp (disch:=first|assumption|omega|(simp (disch:=first|assumption|omega) only [sB,Nat.reduceAdd,Nat.reduceLT,Nat.reduceLeDiff,Nat.reduceEqDiff,Nat.reduceMul,↓reduceIte];done)|fail) only [sA,↓reduceIte,Nat.reduceLT,Nat.reduceEqDiff,Nat.reduceAdd,Nat.reduceLeDiff],by simp (disch:=first|assumption|omega|(simp (disch:=first|assumption|omega) only [sB,Nat.reduceAdd,Nat.reduceLT,Nat.reduceLeDiff,Nat.reduceEqDiff,Nat.reduceMul,↓reduceIte];done)|fail) only [sA,↓reduceIte,Nat.reduceLT,Nat.reduceEqDiff,Nat.reduceAdd,Nat.reduceLeDiff]⟩
  rcases q with ⟨rfl,hb'⟩ | ⟨rfl,g2⟩
  · rw [hb']
    simp (disch:=first|assumption|omega|(simp (disch:=first|assumption|omega) only [sB,Nat.reduceAdd,Nat.reduceLT,Nat.reduceLeDiff,Nat.reduceEqDiff,Nat.reduceMul,↓reduceIte];done)|fail) only [sA,↓reduceIte,Nat.reduceLT,Nat.reduceEqDiff,Nat.reduceAdd,Nat.reduceLeDiff]
    exact finish_flat (d := .int .i64 0) rfl (H2.mono (by omega))
  · simp (disch:=first|assumption|omega|(simp (disch:=first|assumption|omega) only [sB,Nat.reduceAdd,Nat.reduceLT,Nat.reduceLeDiff,Nat.reduceEqDiff,Nat.reduceMul,↓reduceIte];done)|fail) only [sA,↓reduceIte,Nat.reduceLT,Nat.reduceEqDiff,Nat.reduceAdd,Nat.reduceLeDiff,g2]
    exact finish_flat (d := .int .i64 B) rfl H2
end Go.Proofs.Ytdijijblccmfbaa
set_option linter.unusedSimpArgs false
set_option linter.unusedVariables false
namespace Go.Proofs.Ytdijijblccmfbaa
open Go

section
variable {F : Nat → DFn}
theorem rounds_run {r k n : Nat} {env : Tr} {ps : List Po} {args : List D} {a b : DCode} {h h1 h2 : Hps} {e0 e1 e2 : Tr} {n1 n2 : Nat} (hr : getO h r = .loop k env ps a b .none) (hp : putAll ps args env = .ok .normal e0 0 [])
    (ha : LX F a e0 n (delO h r) = .ok .normal e1 n1 h1) (hb : LX F b e1 n1 h1 = .ok .normal e2 n2 h2) : callX F (LX F) n h (.yld r) args = .ok (.bool true) n2 ((r,.loop k env ps a b .none) :: h2) := by
  show round (LX F) r n h args (getO h r) = _
  rw [hr]
  show begRound (LX F) r k n h env ps a b (putAll ps args env) = _
  rw [hp]
  show midRound (LX F) r k env ps a b (LX F a e0 n (delO h r)) = _
  rw [ha]
  show lastRound r k env ps a b (LX F b e1 n1 h1) = _
  rw [hb]; rfl
theorem lowO_loop {m k : Nat} {env : Tr} {ps : List Po} {a b : DCode} {j : Jp} (hm : k ≤ m) : lowO m (.loop k env ps a b j) := by
  show Nat.blt m k = false
  rw [blt_iff,decide_eq_false (by omega)]
theorem Hp.loop {n : Nat} {B h : Hps} {m k : Nat} {env : Tr} {ps : List Po} {a b : DCode} {j : Jp} (H : Hp (n + 1) B m h) (hk : k ≤ n) : Hp (n + 1) ((n,.loop k env ps a b j) :: B) m ((n,.loop k env ps a b j) :: h) := by
  have hle := H.le
  refine ⟨H.le,fun q hq => good_cons.2 ⟨by omega,lowO_loop (by omega),H.good q hq⟩,?_,?_⟩
  · rw [drop_old (by omega),H.drop]
  · rw [leak_old (by omega),H.leak,Bool.or_false]
    exact lowO_loop (by omega)
theorem drop_del {n0 r : Nat} {h : Hps} : dropFrom n0 (delO h r) = delO (dropFrom n0 h) r := by
  induction h with
  | nil => rfl
  | cons p t ih =>
    obtain ⟨q,o⟩ := p
    by_cases e : q = r
    · subst e
      rw [delO_hd]
      by_cases hq : q < n0
      · rw [drop_old hq,delO_hd,ih]
      · rw [drop_new (by omega),ih]
    · rw [delO_tl e]
      by_cases hq : q < n0
      · rw [drop_old hq,drop_old hq,delO_tl e,ih]
      · rw [drop_new (by omega),drop_new (by omega),ih]
theorem leak_del {n0 r : Nat} {h : Hps} (hl : leak n0 h = false) : leak n0 (delO h r) = false := by
  induction h with
  | nil => rfl
  | cons p t ih =>
    obtain ⟨q,o⟩ := p
    by_cases hq : q < n0
    · rw [leak_old hq,Bool.or_eq_false_iff] at hl
      by_cases e : q = r
      · subst e; rw [delO_hd]; exact ih hl.2
      · rw [delO_tl e,leak_old hq,hl.1,ih hl.2]; rfl
    · rw [leak_new (by omega)] at hl
      by_cases e : q = r
      · subst e; rw [delO_hd]; exact ih hl
      · rw [delO_tl e,leak_new (by omega)]; exact ih hl
theorem Hp.unloop {n : Nat} {B h : Hps} {m : Nat} {o : Ob} (H : Hp (n + 1) ((n,o) :: B) m h) (hB : GoodAt n B) : Hp (n + 1) B m (delO h n) :=
  ⟨H.le,fun k hk => good_del (H.good k hk),by rw [drop_del,H.drop,delO_hd,delO_out (fun p hp => by have := (hB p hp).1; omega)],leak_del H.leak⟩
end

section
variable {n : Nat} {env : Tr} {ps : List Po} {a b : DCode}
def Rnd2 (n : Nat) (env : Tr) (ps : List Po) (a b : DCode) (I I' : Hps → Prop) (args : List D) : Prop :=
  ∀ B m h,I B → (∀ k,n ≤ k → GoodAt k B) → Hp (n + 1) B m h → ∃ e0 e1 n1 h1 e2 n2 h2 B',putAll ps args env = .ok .normal e0 0 [] ∧ LX (cFk kT Try.prog) a e0 m h = .ok .normal e1 n1 h1 ∧ LX (cFk kT Try.prog) b e1 n1 h1 = .ok .normal e2 n2 h2 ∧ (∀ k,n ≤ k → GoodAt k B') ∧ Hp (n + 1) B' n2 h2 ∧ m ≤ n2 ∧ I' B'
theorem rnd2_seq {p q : Po} {x y : D} {I I' : Hps → Prop} (K : ∀ B m h,I B → (∀ k,n ≤ k → GoodAt k B) → Hp (n + 1) B m h → ∃ e2 n2 h2 B',LX (cFk kT Try.prog) (.seq a b) (putT q y (putT p x env)) m h = .ok .normal e2 n2 h2 ∧ (∀ k,n ≤ k → GoodAt k B') ∧ Hp (n + 1) B' n2 h2 ∧ m ≤ n2 ∧ I' B') : Rnd2 n env [p,q] a b I I' [x,y] := by
  intro B m h hI hB H
  obtain ⟨e2,n2,h2,B',k1,k2,k3,k4,k5⟩ := K B m h hI hB H
  have k1' : seqR (LX (cFk kT Try.prog)) b (LX (cFk kT Try.prog) a (putT q y (putT p x env)) m h) = .ok .normal e2 n2 h2 := by rw [← k1,LX_seq]
  obtain ⟨e1,n1,h1,ha⟩ : ∃ e1 n1 h1,LX (cFk kT Try.prog) a (putT q y (putT p x env)) m h = .ok .normal e1 n1 h1 := by
    cases hX : LX (cFk kT Try.prog) a (putT q y (putT p x env)) m h with
    | bad => rw [hX] at k1'; cases k1'
    | ok x e1 n1 h1 =>
      cases x with
      | normal => exact ⟨_,_,_,rfl⟩
      | ret => rw [hX] at k1'; cases k1'
      | exit _ => rw [hX] at k1'; cases k1'
  rw [ha] at k1'
  exact ⟨_,e1,n1,h1,e2,n2,h2,B',rfl,ha,k1',k2,k3,k4,k5⟩
theorem rnd2_call {I I' : Hps → Prop} {args : List D} (R : Rnd2 n env ps a b I I' args) {B : Hps} {m : Nat} {h : Hps} (hI : I B) (hB : ∀ k,n ≤ k → GoodAt k B) (H : Hp (n + 1) ((n,.loop n env ps a b .none) :: B) m h) :
    ∃ m' h' B',callX (cFk kT Try.prog) (LX (cFk kT Try.prog)) m h (.yld n) args = .ok (.bool true) m' h' ∧ m ≤ m' ∧ (∀ k,n ≤ k → GoodAt k B') ∧ Hp (n + 1) ((n,.loop n env ps a b .none) :: B') m' h' ∧ I' B' := by
  obtain ⟨e0,e1,n1,h1,e2,n2,h2,B',r0,r1,r2,r3,r4,r5,r6⟩ := R B m (delO h n) hI hB (H.unloop (hB n (Nat.le_refl _)))
  have hget : getO h n = .loop n env ps a b .none := by rw [H.get (by omega),getO_hd]
  exact ⟨n2,_,B',rounds_run hget r0 r1 r2,r5,r3,r4.loop (Nat.le_refl _),r6⟩
set_option maxHeartbeats 4000000 in
theorem inwards_run {s : Sl Tm} {B0 : Hps} {I : Nat → Hps → Prop} (hs : s.el.length ≤ 1000000000) (hI : I s.el.length B0) (hB : ∀ k,n ≤ k → GoodAt k B0)
    (R : ∀ i (hi : i < s.el.length),Rnd2 n env ps a b (I (i + 1)) (I i) [.int .i64 (i : Nat),(D.agg [.int .i64 (s.el[i]).form,.int .i64 (s.el[i]).n,.bool (s.el[i]).hid,.str (s.el[i]).name,slD 2 encL (s.el[i]).levels,slD 6 encT (s.el[i]).kids])]) :
    ∃ B',callFn (LX (cFk kT Try.prog)) (n + 1) ((n,.loop n env ps a b .none) :: B0) [.yld n,.ip (slD 6 encT s) 0] (cFk kT Try.prog 123) = .ok (.tup []) (n + 1) ((n,.loop n env ps a b .none) :: B') ∧ (∀ k,n ≤ k → GoodAt k B') ∧ I 0 B' := by
  have H0 : Hp (n + 1) ((n,.loop n env ps a b .none) :: B0) (n + 1) ((n,.loop n env ps a b .none) :: B0) := (Hp.start (fun k hk => hB k (by omega))).loop (Nat.le_refl _)
  have fin : ∀ {B' m h},Hp (n + 1) ((n,.loop n env ps a b .none) :: B') m h → finishD (n + 1) m h (.tup []) = .ok (.tup []) (n + 1) ((n,.loop n env ps a b .none) :: B') := fun H => finish_flat (d := .tup []) rfl H
  rw [f123_eq]; unfold c123; rw [callFn_eq (by rfl)]
  simp (disch:=first|assumption|omega|(simp (disch:=first|assumption|omega) only [sB,Nat.reduceAdd,Nat.reduceLT,Nat.reduceLeDiff,Nat.reduceEqDiff,Nat.reduceMul,↓reduceIte];done)|fail) only [sA,↓reduceIte,Nat.reduceLT,Nat.reduceEqDiff,Nat.reduceAdd,Nat.reduceLeDiff,load_sl]
  generalize hr : LX (cFk kT Try.prog) (.loop l123_0) _ _ _ = r
  obtain ⟨x,e2,n2,h2,rfl,rfl,B2,H2,hB2,q⟩ := loop_up hr s.el.length
    (fun c e n' h' => ∃ B',Hp (n + 1) ((n,.loop n env ps a b .none) :: B') n' h' ∧ (∀ k,n ≤ k → GoodAt k B') ∧ I (s.el.length - c) B' ∧ get (po 0) e = .yld n ∧ get (po 1) e = .ip (slD 6 encT s) 0 ∧ get (po 3) e = .int .i64 ((s.el.length : Int) - 1 - (c : Nat)))
    (fun x e n' h' => x = .exit 0 ∧ ∃ B',Hp (n + 1) ((n,.loop n env ps a b .none) :: B') n' h' ∧ (∀ k,n ≤ k → GoodAt k B') ∧ I 0 B')
    (by
      rintro e n' h' ⟨B',H,hB',hI',g0,g1,g3⟩
      rw [Nat.sub_self] at hI'
      have z : ¬ ((s.el.length : Int) - 1 - (s.el.length : Nat) ≥ 0) := by omega
      unfold l123_0
      simp (disch:=first|assumption|omega|(simp (disch:=first|assumption|omega) only [sB,Nat.reduceAdd,Nat.reduceLT,Nat.reduceLeDiff,Nat.reduceEqDiff,Nat.reduceMul,↓reduceIte];done)|fail) only [sA,↓reduceIte,Nat.reduceLT,Nat.reduceEqDiff,Nat.reduceAdd,Nat.reduceLeDiff,g0,g1,g3,z]
      exact ⟨_,_,_,_,rfl,by simp,rfl,B',H.mono (by omega),hB',hI'⟩)
    (by
      rintro c e n' h' hc ⟨B',H,hB',hI',g0,g1,g3⟩
      obtain ⟨j,hj⟩ : ∃ j,s.el.length = c + j + 1 := ⟨s.el.length - c - 1,by omega⟩
      have hjl : j < s.el.length := by omega
      rw [show s.el.length - c = j + 1 by omega] at hI'
      rw [show (s.el.length : Int) - 1 - (c : Nat) = ((j : Nat) : Int) by omega] at g3
      have z : ((j : Nat) : Int) ≥ 0 := by omega
      obtain ⟨m',h'',B'',q1,q2,q3,q4,q5⟩ := rnd2_call (R j hjl) hI' hB' (H.mono (show n' ≤ n' + 9 by omega))
      unfold l123_0
      simp (disch:=first|assumption|omega|(simp (disch:=first|assumption|omega) only [sB,Nat.reduceAdd,Nat.reduceLT,Nat.reduceLeDiff,Nat.reduceEqDiff,Nat.reduceMul,↓reduceIte];done)|fail) only [sA,↓reduceIte,Nat.reduceLT,Nat.reduceEqDiff,Nat.reduceAdd,Nat.reduceLeDiff,g0,g1,g3,z,load_sl,encT_eq,q1]
      exact ⟨_,_,_,_,rfl,.inl ⟨rfl,B'',q4.mono (by omega),q3,by rw [show s.el.length - (c + 1) = j by omega]; exact q5,by simp (disch:=first|assumption|omega|(simp (disch:=first|assumption|omega) only [sB,Nat.reduceAdd,Nat.reduceLT,Nat.reduceLeDiff,Nat.reduceEqDiff,Nat.reduceMul,↓reduceIte];done)|fail) only [sA,↓reduceIte,Nat.reduceLT,Nat.reduceEqDiff,Nat.reduceAdd,Nat.reduceLeDiff,g0],by simp (disch:=first|assumption|omega|(simp (disch:=first|assumption|omega) only [sB,Nat.reduceAdd,Nat.reduceLT,Nat.reduceLeDiff,Nat.reduceEqDiff,Nat.reduceMul,↓reduceIte];done)|fail) only [sA,↓reduceIte,Nat.reduceLT,Nat.reduceEqDiff,Nat.reduceAdd,Nat.reduceLeDiff,g1],by simp (disch:=first|assumption|omega|(simp (disch:=first|assumption|omega) only [sB,Nat.reduceAdd,Nat.reduceLT,Nat.reduceLeDiff,Nat.reduceEqDiff,Nat.reduceMul,↓reduceIte];done)|fail) only [sA,↓reduceIte,Nat.reduceLT,Nat.reduceEqDiff,Nat.reduceAdd,Nat.reduceLeDiff]; congr 1; omega⟩⟩)
    ⟨B0,H0.mono (by omega),hB,by rw [Nat.sub_zero]; exact hI,by simp (disch:=first|assumption|omega|(simp (disch:=first|assumption|omega) only [sB,Nat.reduceAdd,Nat.reduceLT,Nat.reduceLeDiff,Nat.reduceEqDiff,Nat.reduceMul,↓reduceIte];done)|fail) only [sA,↓reduceIte,Nat.reduceLT,Nat.reduceEqDiff,Nat.reduceAdd,Nat.reduceLeDiff],by simp (disch:=first|assumption|omega|(simp (disch:=first|assumption|omega) only [sB,Nat.reduceAdd,Nat.reduceLT,Nat.reduceLeDiff,Nat.reduceEqDiff,Nat.reduceMul,↓reduceIte];done)|fail) only [sA,↓reduceIte,Nat.reduceLT,Nat.reduceEqDiff,Nat.reduceAdd,Nat.reduceLeDiff],by simp (disch:=first|assumption|omega|(simp (disch:=first|assumption|omega) only [sB,Nat.reduceAdd,Nat.reduceLT,Nat.reduceLeDiff,Nat.reduceEqDiff,Nat.reduceMul,↓reduceIte];done)|fail) only [sA,↓reduceIte,Nat.reduceLT,Nat.reduceEqDiff,Nat.reduceAdd,Nat.reduceLeDiff,Int.sub_zero]⟩
  simp (disch:=first|assumption|omega|(simp (disch:=first|assumption|omega) only [sB,Nat.reduceAdd,Nat.reduceLT,Nat.reduceLeDiff,Nat.reduceEqDiff,Nat.reduceMul,↓reduceIte];done)|fail) only [sA,↓reduceIte,Nat.reduceLT,Nat.reduceEqDiff,Nat.reduceAdd,Nat.reduceLeDiff,fin H2]
  exact ⟨_,rfl,hB2,q⟩
theorem rng2_at {B0 : Hps} {e : Tr} {f : Opd} {s : Sl Tm} {r : Re} (hr : LX (cFk kT Try.prog) (.rng f ps a b) e n B0 = r) (hf : ev e f = .fn 123 [] [.ip (slD 6 encT s) 0]) (hs : s.el.length ≤ 1000000000)
    (I : Nat → Hps → Prop) (hI : I s.el.length B0) (hB : ∀ k,n ≤ k → GoodAt k B0) (R : ∀ i (hi : i < s.el.length),Rnd2 n e ps a b (I (i + 1)) (I i) [.int .i64 (i : Nat),(D.agg [.int .i64 (s.el[i]).form,.int .i64 (s.el[i]).n,.bool (s.el[i]).hid,.str (s.el[i]).name,slD 2 encL (s.el[i]).levels,slD 6 encT (s.el[i]).kids])]) :
    ∃ B',r = .ok .normal e (n + 1) B' ∧ (∀ k,n ≤ k → GoodAt k B') ∧ I 0 B' := by
  obtain ⟨B',q1,q2,q3⟩ := inwards_run (s := s) hs hI hB R
  have hout : delO B' n = B' := delO_out (fun p hp => by have := (q2 n (Nat.le_refl _) p hp).1; omega)
  have key : r = afterJp e (n + 1) B' .none := by
    rw [← hr,LX_rng,hf]
    show rngK e n (callFn (LX (cFk kT Try.prog)) (n + 1) ((n,.loop n e ps a b .none) :: B0) [.yld n,.ip (slD 6 encT s) 0] ((cFk kT Try.prog) 123)) = _
    rw [q1]
    show afterRng e n (n + 1) ((n,.loop n e ps a b .none) :: B') (getO ((n,.loop n e ps a b .none) :: B') n) = _
    rw [getO_hd]
    show afterJp e (n + 1) (delO ((n,.loop n e ps a b .none) :: B') n) .none = _
    rw [delO_hd,hout]
  exact ⟨B',key,q2,q3⟩
end
end Go.Proofs.Ytdijijblccmfbaa
set_option linter.unusedSimpArgs false
set_option linter.unusedVariables false
namespace Go.Proofs.Ytdijijblccmfbaa
open Go

theorem boxD_int {n : Nat} {h : Hps} {k : IntKind} {i : Int} : boxD n h 1 (.int k i) = .ok (.ptr n 0 0) n ((n,.row 1 [.int k i]) :: h) := eqOf rfl
theorem boxD_nilf {n : Nat} {h : Hps} : boxD n h 1 .nilf = .ok (.ptr n 0 0) n ((n,.row 1 [.nilf]) :: h) := eqOf rfl
theorem gd_int {m r k : Nat} {q : IntKind} {i : Int} {g : Hps} (h : r < m) : Gd m ((r,.row k [.int q i]) :: g) = Gd m g := gd_flat rfl h
theorem flat_ti (x : Tm) (i : Int) : flat (.tup [(D.agg [.int .i64 (x).form,.int .i64 (x).n,.bool (x).hid,.str (x).name,slD 2 encL (x).levels,slD 6 encT (x).kids]),.int .i64 i]) = true := by
  have : flat2 (D.agg [.int .i64 (x).form,.int .i64 (x).n,.bool (x).hid,.str (x).name,slD 2 encL (x).levels,slD 6 encT (x).kids]) = true := by rw [← encT_eq]; exact elemT.flat _
  rw [flat_tup,List.all_cons,List.all_cons,List.all_nil,this]; rfl
theorem gd_nilf {m r k : Nat} {g : Hps} (h : r < m) : Gd m ((r,.row k [.nilf]) :: g) = Gd m g := gd_flat rfl h
theorem low_cap {m q : Nat} {d : D} : low m (.fn q [] [.ip d 0]) := eqOf rfl
theorem gd_fn {m r k q : Nat} {d : D} {g : Hps} (h : r < m) : Gd m ((r,.row k [.fn q [] [.ip d 0]]) :: g) = Gd m g := propext ⟨fun H q hq => (good_cons.1 (H q hq)).2.2,fun H q hq => good_cons.2 ⟨by omega,lowO_one low_cap,H q hq⟩⟩
theorem storeR_fnn {r n q m j : Nat} {a c : List D} {h : Hps} : storeR false m r 0 0 (.fn q a c) n h (.row j [.nilf]) = .ok .junk n (setO h r (.row j [.fn q a c])) := storeR_box1 rfl rfl
theorem app_tight {m : Nat} {h : Hps} {s : Sl Tm} {x : Tm} (hs : s.el.length ≤ 1000000) : appD m h 6 88 (slD 6 encT s.tight) (.ok 6 [(D.agg [.int .i64 (x).form,.int .i64 (x).n,.bool (x).hid,.str (x).name,slD 2 encL (x).levels,slD 6 encT (x).kids])]) = .ok (.ms 6 m 0 (s.el.length + 1) false) m ((m,.row 6 ((s.el ++ [x]).map encT)) :: h) := by
  have e : ∀ l : List Tm,l.length ≤ 1000000 → appN1 m h 6 88 (l.map encT ++ [(D.agg [.int .i64 (x).form,.int .i64 (x).n,.bool (x).hid,.str (x).name,slD 2 encL (x).levels,slD 6 encT (x).kids])]) = .ok (.ms 6 m 0 (l.length + 1) false) m ((m,.row 6 ((l ++ [x]).map encT)) :: h) := fun l hl => by
    unfold appN1
    rw [← encT_eq,show l.map encT ++ [encT x] = (l ++ [x]).map encT by simp,lenL_eq,List.length_map,List.length_append,List.length_singleton,ble_iff,show most = 140737488355328 from rfl,decide_eq_true (by omega)]; rfl
  unfold slD
  cases hc : (s.tight.nil && s.tight.el.isEmpty && s.tight.sp.isEmpty) with
  | true =>
    simp only [Bool.and_eq_true,List.isEmpty_iff] at hc
    have h2 : s.el = [] := hc.1.2
    rw [h2]
    exact e [] (Nat.zero_le _)
  | false =>
    show ifR (Nat.beq 6 6) (ifR (Bool.and true (Nat.beq 6 6)) (appN1 m h 6 88 (appL (s.el.map encT) [(D.agg [.int .i64 (x).form,.int .i64 (x).n,.bool (x).hid,.str (x).name,slD 2 encL (x).levels,slD 6 encT (x).kids])]))) = _
    rw [appL_eq,e s.el hs]; rfl
theorem gd_map {m r k : Nat} {l : List Tm} {t : Hps} (h : r < m) : Gd m ((r,.row k (l.map encT)) :: t) = Gd m t := propext ⟨fun H q hq => (good_cons.1 (H q hq)).2.2,fun H q hq => good_cons.2 ⟨by omega,lowO_map (fun x => low_flat (flatT x)),H q hq⟩⟩
def pisP (s : Sl Tm) (hid : Sl Bool) (t : Tm) : Tm := pisM (hidB hid) s.el 0 t
def bindR (s : Sl Tm) (hid : Sl Bool) (t : Tm) : Tm × Int :=
  if askE (s.el ++ [t]) = 0 then if checkT (pisP s hid t).abs = 0 then (copyM (pisP s hid t),0) else (zeroT,checkT (pisP s hid t).abs) else (zeroT,askE (s.el ++ [t]))
set_option maxHeartbeats 8000000 in
set_option maxRecDepth 8000 in
theorem pBindAll (s : Sl Tm) (hid : Sl Bool) (t : Tm) (hl : s.el.length ≤ 20) (hs : ∀ x,x ∈ s.el → saneT x.abs = true ∧ fewT x.abs = true) (ht : saneT t.abs = true ∧ fewT t.abs = true) (n : Nat) (h : Hps) (hg : Gd n h) :
    callFn (LX (cFk kT Try.prog)) n h [.int .i64 3,slD 6 encT s,slD 1 encB hid,(D.agg [.int .i64 (t).form,.int .i64 (t).n,.bool (t).hid,.str (t).name,slD 2 encL (t).levels,slD 6 encT (t).kids])] (cFk kT Try.prog 72) = .ok (.tup [encT (bindR s hid t).1,.int .i64 (bindR s hid t).2]) n h := by
  have hgn := hg n (Nat.le_refl _)
  have hG : ∀ m,n ≤ m → Gd m h := fun m hm => Gd.mono hg hm
  have hsa : ∀ x,x ∈ s.el ++ [t] → saneT x.abs = true := fun x hx => by
    rcases List.mem_append.1 hx with hx | hx
    · exact (hs x hx).1
    · rw [List.mem_singleton.1 hx]; exact ht.1
  have hlen : (s.el ++ [t]).length = s.el.length + 1 := by rw [List.length_append]; rfl
  have cA : ∀ m r K,getO K r = .row 6 ((s.el ++ [t]).map encT) → r < m → Gd m K → callFn (LX (cFk kT Try.prog)) m K [.ms 6 r 0 (s.el.length + 1) false] (cFk kT Try.prog 73) = .ok (.int .i64 (askE (s.el ++ [t]))) m K := fun m r K hb hr hgm => by
    have := pAsk (s.el ++ [t]) r hsa (by rw [hlen]; omega) m K hgm hr hb
    rw [hlen] at this
    exact this
  have sP : saneT (pisP s hid t).abs = true := of_pis (fun _ _ _ => sane_mk) _ _ _ _ (fun x hx => (hs x hx).1) ht.1
  have fP : fewT (pisP s hid t).abs = true := of_pis (fun _ _ _ => few_mk) _ _ _ _ (fun x hx => (hs x hx).2) ht.2
  have l60 : ¬ ((s.el.length : Nat) : Int) > 60 := by omega
  have cH : ∀ m K,Gd m K → callFn (LX (cFk kT Try.prog)) m K [slD 1 encB hid] (cFk kT Try.prog 74) = .ok (.fn 105 [] [.ip (slD 1 encB hid) 0]) m K := fun m K hgm => pHidden hid m K hgm
  have cI : ∀ m K,Gd m K → callFn (LX (cFk kT Try.prog)) m K [slD 6 encT s] (cFk kT Try.prog 103) = .ok (.fn 123 [] [.ip (slD 6 encT s) 0]) m K := fun m K hgm => pInwards s m K hgm
  unfold bindR
  by_cases z1 : askE (s.el ++ [t]) = 0
  · rw [if_pos z1]
    rw [z1] at cA
    rw [f72_eq]; unfold c72; rw [callFn_eq (by rfl)]
    simp (disch:=first|assumption|omega|(simp (disch:=first|assumption|omega) only [sB,Nat.reduceAdd,Nat.reduceLT,Nat.reduceLeDiff,Nat.reduceEqDiff,Nat.reduceMul,↓reduceIte,getO_hd,hG,gd_map,gd_tm,gd_zt,gd_int,gd_nilf,gd_fn];done)|fail) only [sA,↓reduceIte,Nat.reduceLT,Nat.reduceEqDiff,Nat.reduceAdd,Nat.reduceLeDiff,boxD_int,boxD_nilf,l60,slice3_eq,slc3_slD,app_tight,cA,cH,cI,storeR_fnn,getO_hd,hG,gd_map,gd_tm,gd_zt,gd_int,gd_nilf,gd_fn]
    generalize hr : LX (cFk kT Try.prog) (.rng (.s (po 36)) _ _ _) _ _ _ = RR
    have H0 : Hp n h (n + 12094627905553) ((n + 12094627905548,.row 1 [.fn 105 [] [.ip (slD 1 encB hid) 0]]) :: (n + 8796093022215,.row 6 ((s.el ++ [t]).map encT)) :: (n + 2,(Ob.row 6 [.agg [.int .i64 0,.int .i64 0,.bool false,.str [],.nils,.nils]])) :: (n + 1,(Ob.row 6 [.agg [.int .i64 (t).form,.int .i64 (t).n,.bool (t).hid,.str (t).name,slD 2 encL (t).levels,slD 6 encT (t).kids]])) :: (n,.row 1 [.int .i64 3]) :: h) :=
      (((((Hp.start hg).box (r := n) (m := n + 1) (k := 1) (d := .int .i64 3) (Nat.le_refl _) (by omega) rfl).box (r := n + 1) (m := n + 2) (by omega) (by omega) (flatTA t)).box (r := n + 2) (m := n + 3) (k := 6) (d := (D.agg [.int .i64 0,.int .i64 0,.bool false,.str [],.nils,.nils])) (by omega) (by omega) rfl).cons (r := n + 8796093022215) (m := n + 8796093022216) (by omega) (by omega) (fun k hk => lowO_map (fun x => low_flat (flatT x)))).cons (r := n + 12094627905548) (by omega) (by omega) (fun k hk => lowO_one low_cap)
    obtain ⟨B,rfl,gB,HB,b0,b1,b2,b3⟩ := rng2_at (n := n + 12094627905553) hr (by simp (disch:=first|assumption|omega|(simp (disch:=first|assumption|omega) only [sB,Nat.reduceAdd,Nat.reduceLT,Nat.reduceLeDiff,Nat.reduceEqDiff,Nat.reduceMul,↓reduceIte];done)|fail) only [sA,↓reduceIte,Nat.reduceLT,Nat.reduceEqDiff,Nat.reduceAdd,Nat.reduceLeDiff]) (show s.el.length ≤ 1000000000 by omega)
      (fun i B => Hp n h (n + 12094627905553) B ∧ getO B n = .row 1 [.int .i64 3] ∧ getO B (n + 1) = (Ob.row 6 [.agg [.int .i64 (pisM (hidB hid) (s.el.drop i) i t).form,.int .i64 (pisM (hidB hid) (s.el.drop i) i t).n,.bool (pisM (hidB hid) (s.el.drop i) i t).hid,.str (pisM (hidB hid) (s.el.drop i) i t).name,slD 2 encL (pisM (hidB hid) (s.el.drop i) i t).levels,slD 6 encT (pisM (hidB hid) (s.el.drop i) i t).kids]]) ∧ getO B (n + 2) = (Ob.row 6 [.agg [.int .i64 0,.int .i64 0,.bool false,.str [],.nils,.nils]]) ∧ getO B (n + 12094627905548) = .row 1 [.fn 105 [] [.ip (slD 1 encB hid) 0]])
      ⟨H0,by rw [getO_tl (by omega),getO_tl (by omega),getO_tl (by omega),getO_tl (by omega),getO_hd],by rw [List.drop_length,pisM,getO_tl (by omega),getO_tl (by omega),getO_tl (by omega),getO_hd],by rw [getO_tl (by omega),getO_tl (by omega),getO_hd],getO_hd⟩ (fun k hk => H0.good k hk) (by
        intro i hi
        refine rnd2_seq ?_
        rintro B m G ⟨HB,b0,b1,b2,b3⟩ gB HG
        have hle := HG.le
        have z0 : getO G n = .row 1 [.int .i64 3] := by rw [HG.get (by omega)]; exact b0
        have z1' := HG.get (r := n + 1) (by omega)
        have z3 := HG.get (r := n + 12094627905548) (by omega)
        rw [b1] at z1'
        rw [b3] at z3
        have cB : ∀ m K,Gd m K → callFn (LX (cFk kT Try.prog)) m K [.int .i64 3,.bool (hidB hid i),(D.agg [.int .i64 (s.el[i]).form,.int .i64 (s.el[i]).n,.bool (s.el[i]).hid,.str (s.el[i]).name,slD 2 encL (s.el[i]).levels,slD 6 encT (s.el[i]).kids]),(D.agg [.int .i64 (pisM (hidB hid) (s.el.drop (i + 1)) (i + 1) t).form,.int .i64 (pisM (hidB hid) (s.el.drop (i + 1)) (i + 1) t).n,.bool (pisM (hidB hid) (s.el.drop (i + 1)) (i + 1) t).hid,.str (pisM (hidB hid) (s.el.drop (i + 1)) (i + 1) t).name,slD 2 encL (pisM (hidB hid) (s.el.drop (i + 1)) (i + 1) t).levels,slD 6 encT (pisM (hidB hid) (s.el.drop (i + 1)) (i + 1) t).kids])] (cFk kT Try.prog 104) = .ok (encT (mkT 3 (hidB hid i) s.el[i] (pisM (hidB hid) (s.el.drop (i + 1)) (i + 1) t))) m K := fun m K hg => pBind 3 _ _ _ m K hg
        simp only [encT_eq (mkT _ _ _ _)] at cB
        have hpi : pisM (hidB hid) (s.el.drop i) i t = mkT 3 (hidB hid i) s.el[i] (pisM (hidB hid) (s.el.drop (i + 1)) (i + 1) t) := by rw [List.drop_eq_getElem_cons hi,pisM]
        rw [hpi]
        have cD : ∀ m,callFn (LX (cFk kT Try.prog)) m [] [.int .i64 (i : Nat),.ip (slD 1 encB hid) 0] (cFk kT Try.prog 105) = .ok (.bool (hidB hid i)) m [] := fun m => pHid hid i m [] (by rw [gd_nil]; trivial)
        have HG1 : Hp (n + 12094627905553 + 1) B (m + 2) ((m + 1,(Ob.row 6 [.agg [.int .i64 (s.el[i]).form,.int .i64 (s.el[i]).n,.bool (s.el[i]).hid,.str (s.el[i]).name,slD 2 encL (s.el[i]).levels,slD 6 encT (s.el[i]).kids]])) :: G) := HG.box (r := m + 1) (by omega) (by omega) (flatTA s.el[i])
        have hko : ∀ k,m + 2 ≤ k → keysFrom k ((m + 1,(Ob.row 6 [.agg [.int .i64 (s.el[i]).form,.int .i64 (s.el[i]).n,.bool (s.el[i]).hid,.str (s.el[i]).name,slD 2 encL (s.el[i]).levels,slD 6 encT (s.el[i]).kids]])) :: G) = [] := fun k hk => keys_low (HG1.good k hk)
        have gG : ∀ k,m + 2 ≤ k → Gd k ((m + 1,(Ob.row 6 [.agg [.int .i64 (s.el[i]).form,.int .i64 (s.el[i]).n,.bool (s.el[i]).hid,.str (s.el[i]).name,slD 2 encL (s.el[i]).levels,slD 6 encT (s.el[i]).kids]])) :: G) := fun k hk j hj => HG1.good j (by omega)
        simp (disch:=first|assumption|omega|(simp (disch:=first|assumption|omega) only [sB,Nat.reduceAdd,Nat.reduceLT,Nat.reduceLeDiff,Nat.reduceEqDiff,Nat.reduceMul,↓reduceIte,gG];done)|fail) only [sA,↓reduceIte,Nat.reduceLT,Nat.reduceEqDiff,Nat.reduceAdd,Nat.reduceLeDiff,z0,z1',z3,cB,cD,hko,gG]
        have lo : ∀ k,lowO k (Ob.row 6 [.agg [.int .i64 (mkT 3 (hidB hid i) s.el[i] (pisM (hidB hid) (s.el.drop (i + 1)) (i + 1) t)).form,.int .i64 (mkT 3 (hidB hid i) s.el[i] (pisM (hidB hid) (s.el.drop (i + 1)) (i + 1) t)).n,.bool (mkT 3 (hidB hid i) s.el[i] (pisM (hidB hid) (s.el.drop (i + 1)) (i + 1) t)).hid,.str (mkT 3 (hidB hid i) s.el[i] (pisM (hidB hid) (s.el.drop (i + 1)) (i + 1) t)).name,slD 2 encL (mkT 3 (hidB hid i) s.el[i] (pisM (hidB hid) (s.el.drop (i + 1)) (i + 1) t)).levels,slD 6 encT (mkT 3 (hidB hid i) s.el[i] (pisM (hidB hid) (s.el.drop (i + 1)) (i + 1) t)).kids]]) := fun k => lowO_one (low_flat (flatTA _))
        have HB2 := HB.set (r := n + 1) (by omega) (fun k _ => lo k)
        exact ⟨_,_,_,_,rfl,fun k hk => HB2.good k hk,((HG.setLow (r := n + 1) (by omega) (lo _) (fun k _ => lo k)).box (r := m + 1) (m := m + 2) (by omega) (by omega) (flatTA s.el[i])).mono (by omega),by omega,HB2,getO_set2 b1 b0 (by omega),getO_set1 b1,getO_set2 b1 b2 (by omega),getO_set2 b1 b3 (by omega)⟩)
    rw [List.drop_zero] at b1
    replace b1 : getO B (n + 1) = (Ob.row 6 [.agg [.int .i64 (pisP s hid t).form,.int .i64 (pisP s hid t).n,.bool (pisP s hid t).hid,.str (pisP s hid t).name,slD 2 encL (pisP s hid t).levels,slD 6 encT (pisP s hid t).kids]]) := b1
    have c1 : ∀ m h,Gd m h → callFn (LX (cFk kT Try.prog)) m h [(D.agg [.int .i64 (pisP s hid t).form,.int .i64 (pisP s hid t).n,.bool (pisP s hid t).hid,.str (pisP s hid t).name,slD 2 encL (pisP s hid t).levels,slD 6 encT (pisP s hid t).kids])] (cFk kT Try.prog 22) = .ok (.int .i64 (checkT (pisP s hid t).abs)) m h := pCheck _ sP
    have gGB : ∀ k,n + 12094627905554 ≤ k → Gd k B := fun k hk j hj => HB.good j (by omega)
    have w : ∀ X,getO (setO B (n + 2) X) (n + 2) = X := fun X => getO_setO_same (by rw [b2]; simp)
    have F : ∀ X i m,n + 12094627905554 ≤ m → finishD n m (setO B (n + 2) (Ob.row 6 [.agg [.int .i64 (X).form,.int .i64 (X).n,.bool (X).hid,.str (X).name,slD 2 encL (X).levels,slD 6 encT (X).kids]])) (.tup [(D.agg [.int .i64 (X).form,.int .i64 (X).n,.bool (X).hid,.str (X).name,slD 2 encL (X).levels,slD 6 encT (X).kids]),.int .i64 i]) = .ok (.tup [encT X,.int .i64 i]) n h := fun X i m hm => by
      rw [encT_eq X]
      exact finish_flat (flat_ti X i) ((HB.set (r := n + 2) (by omega) (fun k _ => lowO_one (low_flat (flatTA X)))).mono (by omega))
    by_cases z2 : checkT (pisP s hid t).abs = 0
    · rw [if_pos z2]
      obtain ⟨f1,f2,f3⟩ := good_pts z2
      have cC : ∀ m h,Gd m h → callFn (LX (cFk kT Try.prog)) m h [(D.agg [.int .i64 (pisP s hid t).form,.int .i64 (pisP s hid t).n,.bool (pisP s hid t).hid,.str (pisP s hid t).name,slD 2 encL (pisP s hid t).levels,slD 6 encT (pisP s hid t).kids])] (cFk kT Try.prog 59) = .ok (encT (copyM (pisP s hid t))) m h := fun m h hg => pCopy m h hg _ (slim_of _ f1 fP) (by omega) (by omega)
      rw [encT_eq (copyM _)] at cC
      simp (disch:=first|assumption|omega|(simp (disch:=first|assumption|omega) only [sB,Nat.reduceAdd,Nat.reduceLT,Nat.reduceLeDiff,Nat.reduceEqDiff,Nat.reduceMul,↓reduceIte,gGB];done)|fail) only [sA,↓reduceIte,Nat.reduceLT,Nat.reduceEqDiff,Nat.reduceAdd,Nat.reduceLeDiff,b1,b2,c1,z2,cC,w,F,gGB]
    · rw [if_neg z2]
      have F0 := F zeroT
      replace F0 : ∀ i m,n + 12094627905554 ≤ m → finishD n m (setO B (n + 2) (Ob.row 6 [.agg [.int .i64 0,.int .i64 0,.bool false,.str [],.nils,.nils]])) (.tup [(D.agg [.int .i64 0,.int .i64 0,.bool false,.str [],.nils,.nils]),.int .i64 i]) = .ok (.tup [encT zeroT,.int .i64 i]) n h := F0
      simp (disch:=first|assumption|omega|(simp (disch:=first|assumption|omega) only [sB,Nat.reduceAdd,Nat.reduceLT,Nat.reduceLeDiff,Nat.reduceEqDiff,Nat.reduceMul,↓reduceIte,gGB];done)|fail) only [sA,↓reduceIte,Nat.reduceLT,Nat.reduceEqDiff,Nat.reduceAdd,Nat.reduceLeDiff,b1,b2,c1,z2,w,F0,gGB]
  · rw [if_neg z1]
    rw [f72_eq]; unfold c72; rw [callFn_eq (by rfl)]
    simp (disch:=first|assumption|omega|(simp (disch:=first|assumption|omega) only [sB,Nat.reduceAdd,Nat.reduceLT,Nat.reduceLeDiff,Nat.reduceEqDiff,Nat.reduceMul,↓reduceIte,getO_hd,hG,gd_map,gd_tm,gd_zt,gd_int,gd_nilf,gd_fn];done)|fail) only [sA,↓reduceIte,Nat.reduceLT,Nat.reduceEqDiff,Nat.reduceAdd,Nat.reduceLeDiff,boxD_int,boxD_nilf,l60,slice3_eq,slc3_slD,app_tight,cA,z1,getO_hd,hG,gd_map,gd_tm,gd_zt,gd_int,gd_nilf,gd_fn]
    rfl
theorem pPis (s : Sl Tm) (hid : Sl Bool) (t : Tm) (hl : s.el.length ≤ 20) (hs : ∀ x,x ∈ s.el → saneT x.abs = true ∧ fewT x.abs = true) (ht : saneT t.abs = true ∧ fewT t.abs = true) (n : Nat) (h : Hps) (hg : Gd n h) :
    callFn (LX (cFk kT Try.prog)) n h [slD 6 encT s,slD 1 encB hid,(D.agg [.int .i64 (t).form,.int .i64 (t).n,.bool (t).hid,.str (t).name,slD 2 encL (t).levels,slD 6 encT (t).kids])] (cFk kT Try.prog 33) = .ok (.tup [encT (bindR s hid t).1,.int .i64 (bindR s hid t).2]) n h := by
  have hgn := hg n (Nat.le_refl _)
  have hG : ∀ m,n ≤ m → Gd m h := fun m hm => Gd.mono hg hm
  have c1 : ∀ m h,Gd m h → callFn (LX (cFk kT Try.prog)) m h [.int .i64 3,slD 6 encT s,slD 1 encB hid,(D.agg [.int .i64 (t).form,.int .i64 (t).n,.bool (t).hid,.str (t).name,slD 2 encL (t).levels,slD 6 encT (t).kids])] (cFk kT Try.prog 72) = .ok (.tup [encT (bindR s hid t).1,.int .i64 (bindR s hid t).2]) m h := pBindAll s hid t hl hs ht
  generalize bindR s hid t = R at c1 ⊢
  rw [encT_eq R.1] at c1 ⊢
  rw [f33_eq]; unfold c33; rw [callFn_eq (by rfl)]
  simp (disch:=first|assumption|omega|(simp (disch:=first|assumption|omega) only [sB,Nat.reduceAdd,Nat.reduceLT,Nat.reduceLeDiff,Nat.reduceEqDiff,Nat.reduceMul,↓reduceIte,hG,gd_tm,gd_zt];done)|fail) only [sA,↓reduceIte,Nat.reduceLT,Nat.reduceEqDiff,Nat.reduceAdd,Nat.reduceLeDiff,c1,hG,gd_tm,gd_zt]
end Go.Proofs.Ytdijijblccmfbaa
set_option linter.unusedSimpArgs false
set_option linter.unusedVariables false
namespace Go.Proofs.Ytdijijblccmfbaa
open Go

set_option maxHeartbeats 8000000 in
set_option maxRecDepth 8000 in
theorem pSplit (k : Nat) (a : Tm) (hL : Lams k a) (hk : k ≤ 100000) (hs : saneT a.abs = true) (hc : checkT a.abs = 0) (hr1 : slimT (splitM k a).2.2.abs = true) (hr2 : sizeT (splitM k a).2.2.abs ≤ 100000) (hr3 : highT (splitM k a).2.2.abs ≤ 100000) (n : Nat) (h : Hps) (hg : Gd n h) :
    callFn (LX (cFk kT Try.prog)) n h [(D.agg [.int .i64 (a).form,.int .i64 (a).n,.bool (a).hid,.str (a).name,slD 2 encL (a).levels,slD 6 encT (a).kids]),.int .i64 (k : Nat)] (cFk kT Try.prog 35) = .ok (.tup [slD 6 encT (Sl.app (splitM k a).1),slD 1 encB (Sl.app (splitM k a).2.1),encT (copyM (splitM k a).2.2),.bool true]) n h := by
  have hgn := hg n (Nat.le_refl _)
  have H0 : Hp n h (n + 4) ((n + 3,(Ob.row 6 [.agg [.int .i64 0,.int .i64 0,.bool false,.str [],.nils,.nils]])) :: (n,(Ob.row 6 [.agg [.int .i64 (a).form,.int .i64 (a).n,.bool (a).hid,.str (a).name,slD 2 encL (a).levels,slD 6 encT (a).kids]])) :: h) := ((Hp.start hg).box (r := n) (m := n + 1) (Nat.le_refl _) (by omega) (flatTA a)).box (r := n + 3) (m := n + 4) (k := 6) (d := (D.agg [.int .i64 0,.int .i64 0,.bool false,.str [],.nils,.nils])) (by omega) (by omega) rfl
  have c0 : ∀ m h,Gd m h → callFn (LX (cFk kT Try.prog)) m h [(D.agg [.int .i64 (a).form,.int .i64 (a).n,.bool (a).hid,.str (a).name,slD 2 encL (a).levels,slD 6 encT (a).kids])] (cFk kT Try.prog 22) = .ok (.int .i64 (checkT a.abs)) m h := pCheck a hs
  rw [hc] at c0
  have hG : ∀ m,n ≤ m → Gd m h := fun m hm => Gd.mono hg hm
  have k0 : ¬ ((k : Nat) : Int) < 0 := by omega
  rw [f35_eq]; unfold c35; rw [callFn_eq (by rfl)]
  simp (disch:=first|assumption|omega|(simp (disch:=first|assumption|omega) only [sB,Nat.reduceAdd,Nat.reduceLT,Nat.reduceLeDiff,Nat.reduceEqDiff,Nat.reduceMul,↓reduceIte,hG,gd_tm,gd_zt];done)|fail) only [sA,↓reduceIte,Nat.reduceLT,Nat.reduceEqDiff,Nat.reduceAdd,Nat.reduceLeDiff,c0,k0,hG,gd_tm,gd_zt]
  generalize hX : (splitM k a).1 = X
  generalize hY : (splitM k a).2.1 = Y
  generalize hR : (splitM k a).2.2 = R at hr1 hr2 hr3 ⊢
  generalize hr : LX (cFk kT Try.prog) (.loop l35_0) _ _ _ = RR
  obtain ⟨x,ez,nz,G,rfl,rfl,Hz,p1,dA,dB,BA,BB,z0,z1,q6,q8,q9,q2⟩ := loop_up hr k
    (fun i e n' G => Hp n h n' G ∧ n + 4 ≤ n' ∧ ∃ (c : Tm) (A : List Tm) (B : List Bool) (dA dB : D),Lams (k - i) c ∧ A ++ (splitM (k - i) c).1 = X ∧ B ++ (splitM (k - i) c).2.1 = Y ∧ (splitM (k - i) c).2.2 = R ∧ A.length ≤ i ∧ B.length ≤ i ∧ Bld 6 encT (n + 4) A G dA ∧ Bld 1 encB (n + 4) B G dB ∧ getO G n = (Ob.row 6 [.agg [.int .i64 (c).form,.int .i64 (c).n,.bool (c).hid,.str (c).name,slD 2 encL (c).levels,slD 6 encT (c).kids]]) ∧ getO G (n + 3) = (Ob.row 6 [.agg [.int .i64 0,.int .i64 0,.bool false,.str [],.nils,.nils]]) ∧
      get (po 2) e = .ptr n 0 0 ∧ get (po 6) e = .ptr (n + 3) 0 0 ∧ get (po 8) e = dA ∧ get (po 9) e = dB ∧ get (po 18) e = .int .i64 (k : Nat) ∧ get (po 19) e = .int .i64 (i : Nat))
    (fun x e n' G => x = .exit 0 ∧ Hp n h n' G ∧ n + 4 ≤ n' ∧ ∃ (dA dB : D),Bld 6 encT (n + 4) X G dA ∧ Bld 1 encB (n + 4) Y G dB ∧ getO G n = (Ob.row 6 [.agg [.int .i64 (R).form,.int .i64 (R).n,.bool (R).hid,.str (R).name,slD 2 encL (R).levels,slD 6 encT (R).kids]]) ∧ getO G (n + 3) = (Ob.row 6 [.agg [.int .i64 0,.int .i64 0,.bool false,.str [],.nils,.nils]]) ∧ get (po 6) e = .ptr (n + 3) 0 0 ∧ get (po 8) e = dA ∧ get (po 9) e = dB ∧ get (po 2) e = .ptr n 0 0)
    (by
      rintro e n' G ⟨H,p1,c,A,B,dA,dB,hLc,hA,hB,hRc,hAl,hBl,BA,BB,z0,z1,q2,q6,q8,q9,q18,q19⟩
      rw [Nat.sub_self,splitM] at hA hB hRc
      rw [List.append_nil] at hA hB
      subst hA hB hRc
      unfold l35_0
      simp (disch:=first|assumption|omega|(simp (disch:=first|assumption|omega) only [sB,Nat.reduceAdd,Nat.reduceLT,Nat.reduceLeDiff,Nat.reduceEqDiff,Nat.reduceMul,↓reduceIte];done)|fail) only [sA,↓reduceIte,Nat.reduceLT,Nat.reduceEqDiff,Nat.reduceAdd,Nat.reduceLeDiff,q18,q19]
      exact ⟨_,_,_,_,rfl,by simp,rfl,H.mono (by omega),by omega,dA,dB,BA,BB,z0,z1,by simp (disch:=first|assumption|omega|(simp (disch:=first|assumption|omega) only [sB,Nat.reduceAdd,Nat.reduceLT,Nat.reduceLeDiff,Nat.reduceEqDiff,Nat.reduceMul,↓reduceIte];done)|fail) only [sA,↓reduceIte,Nat.reduceLT,Nat.reduceEqDiff,Nat.reduceAdd,Nat.reduceLeDiff,q6],by simp (disch:=first|assumption|omega|(simp (disch:=first|assumption|omega) only [sB,Nat.reduceAdd,Nat.reduceLT,Nat.reduceLeDiff,Nat.reduceEqDiff,Nat.reduceMul,↓reduceIte];done)|fail) only [sA,↓reduceIte,Nat.reduceLT,Nat.reduceEqDiff,Nat.reduceAdd,Nat.reduceLeDiff,q8],by simp (disch:=first|assumption|omega|(simp (disch:=first|assumption|omega) only [sB,Nat.reduceAdd,Nat.reduceLT,Nat.reduceLeDiff,Nat.reduceEqDiff,Nat.reduceMul,↓reduceIte];done)|fail) only [sA,↓reduceIte,Nat.reduceLT,Nat.reduceEqDiff,Nat.reduceAdd,Nat.reduceLeDiff,q9],by simp (disch:=first|assumption|omega|(simp (disch:=first|assumption|omega) only [sB,Nat.reduceAdd,Nat.reduceLT,Nat.reduceLeDiff,Nat.reduceEqDiff,Nat.reduceMul,↓reduceIte];done)|fail) only [sA,↓reduceIte,Nat.reduceLT,Nat.reduceEqDiff,Nat.reduceAdd,Nat.reduceLeDiff,q2]⟩)
    (by
      rintro i e n' G hi ⟨H,p1,c,A,B,dA,dB,hLc,hA,hB,hRc,hAl,hBl,BA,BB,z0,z1,q2,q6,q8,q9,q18,q19⟩
      obtain ⟨j,hj⟩ : ∃ j,k - i = j + 1 := ⟨k - i - 1,by omega⟩
      rw [hj] at hLc hA hB hRc
      have hj2 : k - (i + 1) = j := by omega
      cases hLc with
      | succ hf hk' hx1 hx2 hx3 hLy =>
        rename_i k0 k1
        rw [splitM_two hk'] at hA hB hRc
        have cC : ∀ m,callFn (LX (cFk kT Try.prog)) m [] [(D.agg [.int .i64 (k0).form,.int .i64 (k0).n,.bool (k0).hid,.str (k0).name,slD 2 encL (k0).levels,slD 6 encT (k0).kids])] (cFk kT Try.prog 59) = .ok (encT (copyM k0)) m [] := fun m => pCopy m [] (by rw [gd_nil]; trivial) k0 hx1 hx2 hx3
        rw [encT_eq] at cC
        obtain ⟨D1,K1,A1⟩ := app_bldz (b := 88) BA H (by omega) p1 (fun m x => low_flat (flatT x)) [copyM k0] (by simp; omega)
        have a1 := fun m hm => (A1 m hm).1
        simp only [List.map_cons,List.map_nil,encT_eq (copyM k0)] at a1
        obtain ⟨_,BA1,H1,kp1,_⟩ := A1 (n' + 7696581394436) (by omega)
        have hoAB := offA BA BB
        have BB1 : Bld 1 encB (n + 4) B (K1 (n' + 7696581394436)) dB := BB.keep (fun r e => by
          have hlt : r < n' := by
            rcases BB with ⟨_,e2⟩ | ⟨p,_,_,e2,gB⟩
            · rw [e2] at e; cases e
            · rw [e2] at e; injection e with _ e _ _ _
              rw [← e]; exact getO_low (H.good n' (Nat.le_refl _)) (by rw [gB]; exact fun h => by cases h)
          exact (kp1 r hlt (hoAB.1 r e)).1)
        have z01 : getO (K1 (n' + 7696581394436)) n = (Ob.row 6 [.agg [.int .i64 (c).form,.int .i64 (c).n,.bool (c).hid,.str (c).name,slD 2 encL (c).levels,slD 6 encT (c).kids]]) := by rw [(kp1 n (by omega) (BA.off' (by omega))).1]; exact z0
        have z11 : getO (K1 (n' + 7696581394436)) (n + 3) = (Ob.row 6 [.agg [.int .i64 0,.int .i64 0,.bool false,.str [],.nils,.nils]]) := by rw [(kp1 (n + 3) (by omega) (BA.off' (by omega))).1]; exact z1
        obtain ⟨D2,K2,A2⟩ := app_bldz (b := 1) BB1 H1 (by omega) (by omega) (fun m x => low_flat rfl) [c.hid] (by simp; omega)
        have a2 := fun m hm => (A2 m hm).1
        simp only [List.map_cons,List.map_nil,encB] at a2
        have i0 : 0 < c.kids.el.length := by rw [hk']; simp
        have i1 : 1 < c.kids.el.length := by rw [hk']; simp
        have e0 : ∀ hh,encT (c.kids.el[0]'hh) = (D.agg [.int .i64 (k0).form,.int .i64 (k0).n,.bool (k0).hid,.str (k0).name,slD 2 encL (k0).levels,slD 6 encT (k0).kids]) := fun hh => by simp only [hk']; exact encT_eq _
        have e1 : ∀ hh,encT (c.kids.el[1]'hh) = (D.agg [.int .i64 (k1).form,.int .i64 (k1).n,.bool (k1).hid,.str (k1).name,slD 2 encL (k1).levels,slD 6 encT (k1).kids]) := fun hh => by simp only [hk']; exact encT_eq _
        have hbA := BA.okD
        have hbB := BB.okD
        have hko : ∀ m,n' ≤ m → keysFrom m G = [] := fun m hm => keys_low (H.good m hm)
        rw [hf] at z0 z01
        have hmA : ∀ q,(q < n + 4 ∨ n' ≤ q) → memN q (refO dA) = false := fun q hq => by
          rcases BA with ⟨_,rfl⟩ | ⟨r,_,h2,rfl,gA⟩
          · rfl
          · have := getO_low (H.good n' (Nat.le_refl _)) (show getO G r ≠ .none by rw [gA]; exact fun h => by cases h)
            show memN q [r] = false
            rw [memN_cons,decide_eq_false (by omega)]; rfl
        obtain ⟨_,BB2,H2,kp2,_⟩ := A2 (n' + 13194139533316) (by omega)
        have hoAB1 := offA BA1 BB1
        have BA2 : Bld 6 encT (n + 4) (A ++ [copyM k0]) (K2 (n' + 13194139533316)) (D1 (n' + 7696581394436)) := BA1.keep (fun r e => by
          have hlt : r < n' + 7696581394437 := by
            rcases BA1 with ⟨_,e2⟩ | ⟨p,_,_,e2,gA⟩
            · rw [e2] at e; cases e
            · rw [e2] at e; injection e with _ e _ _ _
              rw [← e]; exact getO_low (H1.good _ (Nat.le_refl _)) (by rw [gA]; exact fun h => by cases h)
          exact (kp2 r hlt (hoAB1.2 r e)).1)
        have z02 : getO (K2 (n' + 13194139533316)) n = .row 6 [.agg [.int .i64 3,.int .i64 c.n,.bool c.hid,.str c.name,slD 2 encL c.levels,slD 6 encT c.kids]] := by rw [(kp2 n (by omega) (BB1.off' (by omega))).1]; exact z01
        have z12 : getO (K2 (n' + 13194139533316)) (n + 3) = (Ob.row 6 [.agg [.int .i64 0,.int .i64 0,.bool false,.str [],.nils,.nils]]) := by rw [(kp2 (n + 3) (by omega) (BB1.off' (by omega))).1]; exact z11
        unfold l35_0
        simp (disch:=first|assumption|omega|(simp (disch:=first|assumption|omega) only [sB,Nat.reduceAdd,Nat.reduceLT,Nat.reduceLeDiff,Nat.reduceEqDiff,Nat.reduceMul,↓reduceIte,i0,i1];done)|fail) only [sA,↓reduceIte,Nat.reduceLT,Nat.reduceEqDiff,Nat.reduceAdd,Nat.reduceLeDiff,q2,q6,q8,q9,q18,q19,z0,z01,z02,hf,e0,e1,a1,a2,cC,hbA,hbB,hko,hmA,i0,i1]
        exact ⟨_,_,_,_,rfl,.inl ⟨rfl,(H2.set (r := n) (by omega) (fun k _ => lowO_one (low_flat (flatTA k1)))).mono (by omega),by omega,k1,A ++ [copyM k0],B ++ [c.hid],_,_,by rw [hj2]; exact hLy,by rw [hj2,List.append_assoc]; exact hA,by rw [hj2,List.append_assoc]; exact hB,by rw [hj2]; exact hRc,by rw [List.length_append,List.length_singleton]; omega,by rw [List.length_append,List.length_singleton]; omega,BA2.set z02 (by omega),BB2.set z02 (by omega),getO_set1 z02,getO_set2 z02 z12 (by omega),by simp (disch:=first|assumption|omega|(simp (disch:=first|assumption|omega) only [sB,Nat.reduceAdd,Nat.reduceLT,Nat.reduceLeDiff,Nat.reduceEqDiff,Nat.reduceMul,↓reduceIte];done)|fail) only [sA,↓reduceIte,Nat.reduceLT,Nat.reduceEqDiff,Nat.reduceAdd,Nat.reduceLeDiff,q2],by simp (disch:=first|assumption|omega|(simp (disch:=first|assumption|omega) only [sB,Nat.reduceAdd,Nat.reduceLT,Nat.reduceLeDiff,Nat.reduceEqDiff,Nat.reduceMul,↓reduceIte];done)|fail) only [sA,↓reduceIte,Nat.reduceLT,Nat.reduceEqDiff,Nat.reduceAdd,Nat.reduceLeDiff,q6],by simp (disch:=first|assumption|omega|(simp (disch:=first|assumption|omega) only [sB,Nat.reduceAdd,Nat.reduceLT,Nat.reduceLeDiff,Nat.reduceEqDiff,Nat.reduceMul,↓reduceIte];done)|fail) only [sA,↓reduceIte,Nat.reduceLT,Nat.reduceEqDiff,Nat.reduceAdd,Nat.reduceLeDiff],by simp (disch:=first|assumption|omega|(simp (disch:=first|assumption|omega) only [sB,Nat.reduceAdd,Nat.reduceLT,Nat.reduceLeDiff,Nat.reduceEqDiff,Nat.reduceMul,↓reduceIte];done)|fail) only [sA,↓reduceIte,Nat.reduceLT,Nat.reduceEqDiff,Nat.reduceAdd,Nat.reduceLeDiff],by simp (disch:=first|assumption|omega|(simp (disch:=first|assumption|omega) only [sB,Nat.reduceAdd,Nat.reduceLT,Nat.reduceLeDiff,Nat.reduceEqDiff,Nat.reduceMul,↓reduceIte];done)|fail) only [sA,↓reduceIte,Nat.reduceLT,Nat.reduceEqDiff,Nat.reduceAdd,Nat.reduceLeDiff,q18],by simp (disch:=first|assumption|omega|(simp (disch:=first|assumption|omega) only [sB,Nat.reduceAdd,Nat.reduceLT,Nat.reduceLeDiff,Nat.reduceEqDiff,Nat.reduceMul,↓reduceIte];done)|fail) only [sA,↓reduceIte,Nat.reduceLT,Nat.reduceEqDiff,Nat.reduceAdd,Nat.reduceLeDiff]⟩⟩)
    ⟨H0.mono (by omega),by omega,a,[],[],.nils,.nils,hL,hX,hY,hR,Nat.le_refl _,Nat.le_refl _,.inl ⟨rfl,rfl⟩,.inl ⟨rfl,rfl⟩,by rw [getO_tl (by omega),getO_hd],getO_hd,by simp (disch:=first|assumption|omega|(simp (disch:=first|assumption|omega) only [sB,Nat.reduceAdd,Nat.reduceLT,Nat.reduceLeDiff,Nat.reduceEqDiff,Nat.reduceMul,↓reduceIte];done)|fail) only [sA,↓reduceIte,Nat.reduceLT,Nat.reduceEqDiff,Nat.reduceAdd,Nat.reduceLeDiff],by simp (disch:=first|assumption|omega|(simp (disch:=first|assumption|omega) only [sB,Nat.reduceAdd,Nat.reduceLT,Nat.reduceLeDiff,Nat.reduceEqDiff,Nat.reduceMul,↓reduceIte];done)|fail) only [sA,↓reduceIte,Nat.reduceLT,Nat.reduceEqDiff,Nat.reduceAdd,Nat.reduceLeDiff],by simp (disch:=first|assumption|omega|(simp (disch:=first|assumption|omega) only [sB,Nat.reduceAdd,Nat.reduceLT,Nat.reduceLeDiff,Nat.reduceEqDiff,Nat.reduceMul,↓reduceIte];done)|fail) only [sA,↓reduceIte,Nat.reduceLT,Nat.reduceEqDiff,Nat.reduceAdd,Nat.reduceLeDiff],by simp (disch:=first|assumption|omega|(simp (disch:=first|assumption|omega) only [sB,Nat.reduceAdd,Nat.reduceLT,Nat.reduceLeDiff,Nat.reduceEqDiff,Nat.reduceMul,↓reduceIte];done)|fail) only [sA,↓reduceIte,Nat.reduceLT,Nat.reduceEqDiff,Nat.reduceAdd,Nat.reduceLeDiff],by simp (disch:=first|assumption|omega|(simp (disch:=first|assumption|omega) only [sB,Nat.reduceAdd,Nat.reduceLT,Nat.reduceLeDiff,Nat.reduceEqDiff,Nat.reduceMul,↓reduceIte];done)|fail) only [sA,↓reduceIte,Nat.reduceLT,Nat.reduceEqDiff,Nat.reduceAdd,Nat.reduceLeDiff],by simp (disch:=first|assumption|omega|(simp (disch:=first|assumption|omega) only [sB,Nat.reduceAdd,Nat.reduceLT,Nat.reduceLeDiff,Nat.reduceEqDiff,Nat.reduceMul,↓reduceIte];done)|fail) only [sA,↓reduceIte,Nat.reduceLT,Nat.reduceEqDiff,Nat.reduceAdd,Nat.reduceLeDiff]⟩
  have cR : ∀ m h,Gd m h → callFn (LX (cFk kT Try.prog)) m h [(D.agg [.int .i64 (R).form,.int .i64 (R).n,.bool (R).hid,.str (R).name,slD 2 encL (R).levels,slD 6 encT (R).kids])] (cFk kT Try.prog 59) = .ok (encT (copyM R)) m h := fun m h hg => pCopy m h hg R hr1 hr2 hr3
  have hGz : ∀ m,nz ≤ m → Gd m G := fun m hm k hk => Hz.good k (by omega)
  rw [encT_eq (copyM R)] at cR ⊢
  have w : ∀ X,getO (setO G (n + 3) X) (n + 3) = X := fun X => getO_setO_same (by rw [z1]; simp)
  have hbA := BA.okD
  have hbB := BB.okD
  have F : ∀ m,nz ≤ m → finishD n m (setO G (n + 3) (Ob.row 6 [.agg [.int .i64 (copyM R).form,.int .i64 (copyM R).n,.bool (copyM R).hid,.str (copyM R).name,slD 2 encL (copyM R).levels,slD 6 encT (copyM R).kids]])) (.tup [dA,dB,(D.agg [.int .i64 (copyM R).form,.int .i64 (copyM R).n,.bool (copyM R).hid,.str (copyM R).name,slD 2 encL (copyM R).levels,slD 6 encT (copyM R).kids]),.bool true]) = .ok (.tup [slD 6 encT (Sl.app X),slD 1 encB (Sl.app Y),(D.agg [.int .i64 (copyM R).form,.int .i64 (copyM R).n,.bool (copyM R).hid,.str (copyM R).name,slD 2 encL (copyM R).levels,slD 6 encT (copyM R).kids]),.bool true]) n h := fun m hm => by
    have Hm := (Hz.set (r := n + 3) (x := (Ob.row 6 [.agg [.int .i64 (copyM R).form,.int .i64 (copyM R).n,.bool (copyM R).hid,.str (copyM R).name,slD 2 encL (copyM R).levels,slD 6 encT (copyM R).kids]])) (by omega) (fun k _ => lowO_one (low_flat (flatTA (copyM R))))).mono hm
    have F := finishD_fz (n := m) (Fz.tup (.cons (Fz.bld elemT ((BA.set z1 (by omega)).wide (show n ≤ n + 4 by omega))) (.cons (Fz.bld elemB ((BB.set z1 (by omega)).wide (show n ≤ n + 4 by omega))) (.cons ((Fz.of2 (d := (D.agg [.int .i64 (copyM R).form,.int .i64 (copyM R).n,.bool (copyM R).hid,.str (copyM R).name,slD 2 encL (copyM R).levels,slD 6 encT (copyM R).kids])) (by rw [← encT_eq]; exact elemT.flat _)).mono (show 2 ≤ 3 by omega)) (.cons ((Fz.of2 (d := .bool true) rfl).mono (show 2 ≤ 3 by omega)) .nil))))) (by omega) Hm.leak
    rw [F,Hm.drop]
  simp (disch:=first|assumption|omega|(simp (disch:=first|assumption|omega) only [sB,Nat.reduceAdd,Nat.reduceLT,Nat.reduceLeDiff,Nat.reduceEqDiff,Nat.reduceMul,↓reduceIte,hGz];done)|fail) only [sA,↓reduceIte,Nat.reduceLT,Nat.reduceEqDiff,Nat.reduceAdd,Nat.reduceLeDiff,q2,q6,q8,q9,z0,z1,w,cR,hbA,hbB,F,hGz]
end Go.Proofs.Ytdijijblccmfbaa
set_option linter.unusedSimpArgs false
set_option linter.unusedVariables false
namespace Go.Proofs.Ytdijijblccmfbaa
open Go

def aplR (s : Sl Tm) (hid : Sl Bool) (t : Tm) : Tm × Int :=
  if askE (s.el ++ [t]) = 0 then if checkT (appM (hidB hid) s.el 0 t).abs = 0 then (copyM (appM (hidB hid) s.el 0 t),0) else (zeroT,checkT (appM (hidB hid) s.el 0 t).abs) else (zeroT,askE (s.el ++ [t]))
set_option maxHeartbeats 8000000 in
set_option maxRecDepth 8000 in
theorem pApply (s : Sl Tm) (hid : Sl Bool) (t : Tm) (hl : s.el.length ≤ 20) (hs : ∀ x,x ∈ s.el → saneT x.abs = true ∧ fewT x.abs = true) (ht : saneT t.abs = true ∧ fewT t.abs = true) (n : Nat) (h : Hps) (hg : Gd n h) :
    callFn (LX (cFk kT Try.prog)) n h [(D.agg [.int .i64 (t).form,.int .i64 (t).n,.bool (t).hid,.str (t).name,slD 2 encL (t).levels,slD 6 encT (t).kids]),slD 6 encT s,slD 1 encB hid] (cFk kT Try.prog 36) = .ok (.tup [encT (aplR s hid t).1,.int .i64 (aplR s hid t).2]) n h := by
  have hgn := hg n (Nat.le_refl _)
  have hG : ∀ m,n ≤ m → Gd m h := fun m hm => Gd.mono hg hm
  have hsa : ∀ x,x ∈ s.el ++ [t] → saneT x.abs = true := fun x hx => by
    rcases List.mem_append.1 hx with hx | hx
    · exact (hs x hx).1
    · rw [List.mem_singleton.1 hx]; exact ht.1
  have hlen : (s.el ++ [t]).length = s.el.length + 1 := by rw [List.length_append]; rfl
  have cA : ∀ m r K,getO K r = .row 6 ((s.el ++ [t]).map encT) → r < m → Gd m K → callFn (LX (cFk kT Try.prog)) m K [.ms 6 r 0 (s.el.length + 1) false] (cFk kT Try.prog 73) = .ok (.int .i64 (askE (s.el ++ [t]))) m K := fun m r K hb hr hgm => by
    have := pAsk (s.el ++ [t]) r hsa (by rw [hlen]; omega) m K hgm hr hb
    rw [hlen] at this
    exact this
  have sP : saneT (appM (hidB hid) s.el 0 t).abs = true := of_app (fun _ _ _ => sane_mk) _ _ _ _ (fun x hx => (hs x hx).1) ht.1
  have fP : fewT (appM (hidB hid) s.el 0 t).abs = true := of_app (fun _ _ _ => few_mk) _ _ _ _ (fun x hx => (hs x hx).2) ht.2
  have l60 : ¬ ((s.el.length : Nat) : Int) > 60 := by omega
  have cH : ∀ m K,Gd m K → callFn (LX (cFk kT Try.prog)) m K [slD 1 encB hid] (cFk kT Try.prog 74) = .ok (.fn 105 [] [.ip (slD 1 encB hid) 0]) m K := fun m K hgm => pHidden hid m K hgm
  unfold aplR
  by_cases z1 : askE (s.el ++ [t]) = 0
  · rw [if_pos z1]
    rw [z1] at cA
    rw [f36_eq]; unfold c36; rw [callFn_eq (by rfl)]
    simp (disch:=first|assumption|omega|(simp (disch:=first|assumption|omega) only [sB,Nat.reduceAdd,Nat.reduceLT,Nat.reduceLeDiff,Nat.reduceEqDiff,Nat.reduceMul,↓reduceIte,getO_hd,hG,gd_map,gd_tm,gd_zt];done)|fail) only [sA,↓reduceIte,Nat.reduceLT,Nat.reduceEqDiff,Nat.reduceAdd,Nat.reduceLeDiff,l60,slice3_eq,slc3_slD,app_tight,cA,cH,getO_hd,hG,gd_map,gd_tm,gd_zt]
    generalize hr : LX (cFk kT Try.prog) (.loop l36_0) _ _ _ = RR
    have H0 : Hp n h (n + 12094627905551) ((n + 8796093022214,.row 6 ((s.el ++ [t]).map encT)) :: (n + 1,(Ob.row 6 [.agg [.int .i64 0,.int .i64 0,.bool false,.str [],.nils,.nils]])) :: (n,(Ob.row 6 [.agg [.int .i64 (t).form,.int .i64 (t).n,.bool (t).hid,.str (t).name,slD 2 encL (t).levels,slD 6 encT (t).kids]])) :: h) :=
      (((Hp.start hg).box (r := n) (m := n + 1) (Nat.le_refl _) (by omega) (flatTA t)).box (r := n + 1) (m := n + 2) (k := 6) (d := (D.agg [.int .i64 0,.int .i64 0,.bool false,.str [],.nils,.nils])) (by omega) (by omega) rfl).cons (r := n + 8796093022214) (by omega) (by omega) (fun k hk => lowO_map (fun x => low_flat (flatT x)))
    obtain ⟨x,e2,n2,B,rfl,rfl,HB,n2l,b0,b1,g3,g6⟩ := loop_up hr s.el.length
      (fun i e n' G => Hp n h n' G ∧ n + 2 ≤ n' ∧ getO G n = (Ob.row 6 [.agg [.int .i64 (appM (hidB hid) (s.el.take i) 0 t).form,.int .i64 (appM (hidB hid) (s.el.take i) 0 t).n,.bool (appM (hidB hid) (s.el.take i) 0 t).hid,.str (appM (hidB hid) (s.el.take i) 0 t).name,slD 2 encL (appM (hidB hid) (s.el.take i) 0 t).levels,slD 6 encT (appM (hidB hid) (s.el.take i) 0 t).kids]]) ∧ getO G (n + 1) = (Ob.row 6 [.agg [.int .i64 0,.int .i64 0,.bool false,.str [],.nils,.nils]]) ∧ get (po 3) e = .ptr n 0 0 ∧ get (po 6) e = .ptr (n + 1) 0 0 ∧ get (po 9) e = .fn 105 [] [.ip (slD 1 encB hid) 0] ∧ get (po 33) e = slD 6 encT s ∧ get (po 34) e = .int .i64 (s.el.length : Nat) ∧ get (po 35) e = .int .i64 (i : Nat))
      (fun x e n' G => x = .exit 0 ∧ Hp n h n' G ∧ n + 2 ≤ n' ∧ getO G n = (Ob.row 6 [.agg [.int .i64 (appM (hidB hid) s.el 0 t).form,.int .i64 (appM (hidB hid) s.el 0 t).n,.bool (appM (hidB hid) s.el 0 t).hid,.str (appM (hidB hid) s.el 0 t).name,slD 2 encL (appM (hidB hid) s.el 0 t).levels,slD 6 encT (appM (hidB hid) s.el 0 t).kids]]) ∧ getO G (n + 1) = (Ob.row 6 [.agg [.int .i64 0,.int .i64 0,.bool false,.str [],.nils,.nils]]) ∧ get (po 3) e = .ptr n 0 0 ∧ get (po 6) e = .ptr (n + 1) 0 0)
      (by
        rintro e n' G ⟨H,hle,b0,b1,g3,g6,g9,g33,g34,g35⟩
        rw [List.take_length] at b0
        unfold l36_0
        simp (disch:=first|assumption|omega|(simp (disch:=first|assumption|omega) only [sB,Nat.reduceAdd,Nat.reduceLT,Nat.reduceLeDiff,Nat.reduceEqDiff,Nat.reduceMul,↓reduceIte];done)|fail) only [sA,↓reduceIte,Nat.reduceLT,Nat.reduceEqDiff,Nat.reduceAdd,Nat.reduceLeDiff,g34,g35]
        exact ⟨_,_,_,_,rfl,by simp,rfl,H.mono (by omega),by omega,b0,b1,by simp (disch:=first|assumption|omega|(simp (disch:=first|assumption|omega) only [sB,Nat.reduceAdd,Nat.reduceLT,Nat.reduceLeDiff,Nat.reduceEqDiff,Nat.reduceMul,↓reduceIte];done)|fail) only [sA,↓reduceIte,Nat.reduceLT,Nat.reduceEqDiff,Nat.reduceAdd,Nat.reduceLeDiff,g3],by simp (disch:=first|assumption|omega|(simp (disch:=first|assumption|omega) only [sB,Nat.reduceAdd,Nat.reduceLT,Nat.reduceLeDiff,Nat.reduceEqDiff,Nat.reduceMul,↓reduceIte];done)|fail) only [sA,↓reduceIte,Nat.reduceLT,Nat.reduceEqDiff,Nat.reduceAdd,Nat.reduceLeDiff,g6]⟩)
      (by
        rintro i e n' G hi ⟨H,hle,b0,b1,g3,g6,g9,g33,g34,g35⟩
        have hap : appM (hidB hid) (s.el.take (i + 1)) 0 t = mkT 5 (hidB hid i) (appM (hidB hid) (s.el.take i) 0 t) s.el[i] := by
          rw [List.take_succ_eq_append_getElem hi,appM_snoc,List.length_take,Nat.zero_add,Nat.min_eq_left (by omega)]
        have em : ∀ b f a,(D.agg [.int .i64 (mkT 5 b f a).form,.int .i64 (mkT 5 b f a).n,.bool (mkT 5 b f a).hid,.str (mkT 5 b f a).name,slD 2 encL (mkT 5 b f a).levels,slD 6 encT (mkT 5 b f a).kids]) = .agg [.int .i64 5,.int .i64 0,.bool b,.str [],.nils,.sl 6 [(D.agg [.int .i64 (f).form,.int .i64 (f).n,.bool (f).hid,.str (f).name,slD 2 encL (f).levels,slD 6 encT (f).kids]),(D.agg [.int .i64 (a).form,.int .i64 (a).n,.bool (a).hid,.str (a).name,slD 2 encL (a).levels,slD 6 encT (a).kids])] [] true] := fun b f a => by rw [← encT_eq,mkT_enc,encT_eq,encT_eq]
        rw [hap,em]
        have HG1 : Hp n h (n' + 5) ((n' + 4,(Ob.row 6 [.agg [.int .i64 (s.el[i]).form,.int .i64 (s.el[i]).n,.bool (s.el[i]).hid,.str (s.el[i]).name,slD 2 encL (s.el[i]).levels,slD 6 encT (s.el[i]).kids]])) :: G) := H.box (r := n' + 4) (by omega) (by omega) (flatTA s.el[i])
        have hko : ∀ k,n' + 5 ≤ k → keysFrom k ((n' + 4,(Ob.row 6 [.agg [.int .i64 (s.el[i]).form,.int .i64 (s.el[i]).n,.bool (s.el[i]).hid,.str (s.el[i]).name,slD 2 encL (s.el[i]).levels,slD 6 encT (s.el[i]).kids]])) :: G) = [] := fun k hk => keys_low (HG1.good k hk)
        have gG : ∀ k,n' + 5 ≤ k → Gd k ((n' + 4,(Ob.row 6 [.agg [.int .i64 (s.el[i]).form,.int .i64 (s.el[i]).n,.bool (s.el[i]).hid,.str (s.el[i]).name,slD 2 encL (s.el[i]).levels,slD 6 encT (s.el[i]).kids]])) :: G) := fun k hk j hj => HG1.good j (by omega)
        have cD : ∀ m,callFn (LX (cFk kT Try.prog)) m [] [.int .i64 (i : Nat),.ip (slD 1 encB hid) 0] (cFk kT Try.prog 105) = .ok (.bool (hidB hid i)) m [] := fun m => pHid hid i m [] (by rw [gd_nil]; trivial)
        unfold l36_0
        simp (disch:=first|assumption|omega|(simp (disch:=first|assumption|omega) only [sB,Nat.reduceAdd,Nat.reduceLT,Nat.reduceLeDiff,Nat.reduceEqDiff,Nat.reduceMul,↓reduceIte,gG];done)|fail) only [sA,↓reduceIte,Nat.reduceLT,Nat.reduceEqDiff,Nat.reduceAdd,Nat.reduceLeDiff,g3,g6,g9,g33,g34,g35,b0,b1,encT_eq,cD,hko,gG]
        have lo : ∀ k,lowO k (.row 6 [.agg [.int .i64 5,.int .i64 0,.bool (hidB hid i),.str [],.nils,.sl 6 [(D.agg [.int .i64 (appM (hidB hid) (s.el.take i) 0 t).form,.int .i64 (appM (hidB hid) (s.el.take i) 0 t).n,.bool (appM (hidB hid) (s.el.take i) 0 t).hid,.str (appM (hidB hid) (s.el.take i) 0 t).name,slD 2 encL (appM (hidB hid) (s.el.take i) 0 t).levels,slD 6 encT (appM (hidB hid) (s.el.take i) 0 t).kids]),(D.agg [.int .i64 (s.el[i]).form,.int .i64 (s.el[i]).n,.bool (s.el[i]).hid,.str (s.el[i]).name,slD 2 encL (s.el[i]).levels,slD 6 encT (s.el[i]).kids])] [] true]]) := fun k => by rw [← em]; exact lowO_one (low_flat (flatTA _))
        exact ⟨_,_,_,_,rfl,.inl ⟨rfl,((H.set (r := n) (by omega) (fun k _ => lo k)).box (r := n' + 4) (m := n' + 5) (by omega) (by omega) (flatTA s.el[i])).mono (by omega),by omega,by rw [getO_tl (by omega)]; exact getO_set1 b0,by rw [getO_tl (by omega)]; exact getO_set2 b0 b1 (by omega),by simp (disch:=first|assumption|omega|(simp (disch:=first|assumption|omega) only [sB,Nat.reduceAdd,Nat.reduceLT,Nat.reduceLeDiff,Nat.reduceEqDiff,Nat.reduceMul,↓reduceIte];done)|fail) only [sA,↓reduceIte,Nat.reduceLT,Nat.reduceEqDiff,Nat.reduceAdd,Nat.reduceLeDiff,g3],by simp (disch:=first|assumption|omega|(simp (disch:=first|assumption|omega) only [sB,Nat.reduceAdd,Nat.reduceLT,Nat.reduceLeDiff,Nat.reduceEqDiff,Nat.reduceMul,↓reduceIte];done)|fail) only [sA,↓reduceIte,Nat.reduceLT,Nat.reduceEqDiff,Nat.reduceAdd,Nat.reduceLeDiff,g6],by simp (disch:=first|assumption|omega|(simp (disch:=first|assumption|omega) only [sB,Nat.reduceAdd,Nat.reduceLT,Nat.reduceLeDiff,Nat.reduceEqDiff,Nat.reduceMul,↓reduceIte];done)|fail) only [sA,↓reduceIte,Nat.reduceLT,Nat.reduceEqDiff,Nat.reduceAdd,Nat.reduceLeDiff,g9],by simp (disch:=first|assumption|omega|(simp (disch:=first|assumption|omega) only [sB,Nat.reduceAdd,Nat.reduceLT,Nat.reduceLeDiff,Nat.reduceEqDiff,Nat.reduceMul,↓reduceIte];done)|fail) only [sA,↓reduceIte,Nat.reduceLT,Nat.reduceEqDiff,Nat.reduceAdd,Nat.reduceLeDiff,g33],by simp (disch:=first|assumption|omega|(simp (disch:=first|assumption|omega) only [sB,Nat.reduceAdd,Nat.reduceLT,Nat.reduceLeDiff,Nat.reduceEqDiff,Nat.reduceMul,↓reduceIte];done)|fail) only [sA,↓reduceIte,Nat.reduceLT,Nat.reduceEqDiff,Nat.reduceAdd,Nat.reduceLeDiff,g34],by simp (disch:=first|assumption|omega|(simp (disch:=first|assumption|omega) only [sB,Nat.reduceAdd,Nat.reduceLT,Nat.reduceLeDiff,Nat.reduceEqDiff,Nat.reduceMul,↓reduceIte];done)|fail) only [sA,↓reduceIte,Nat.reduceLT,Nat.reduceEqDiff,Nat.reduceAdd,Nat.reduceLeDiff]⟩⟩)
      ⟨H0,by omega,by rw [List.take_zero,appM,getO_tl (by omega),getO_tl (by omega),getO_hd],by rw [getO_tl (by omega),getO_hd],by simp (disch:=first|assumption|omega|(simp (disch:=first|assumption|omega) only [sB,Nat.reduceAdd,Nat.reduceLT,Nat.reduceLeDiff,Nat.reduceEqDiff,Nat.reduceMul,↓reduceIte];done)|fail) only [sA,↓reduceIte,Nat.reduceLT,Nat.reduceEqDiff,Nat.reduceAdd,Nat.reduceLeDiff],by simp (disch:=first|assumption|omega|(simp (disch:=first|assumption|omega) only [sB,Nat.reduceAdd,Nat.reduceLT,Nat.reduceLeDiff,Nat.reduceEqDiff,Nat.reduceMul,↓reduceIte];done)|fail) only [sA,↓reduceIte,Nat.reduceLT,Nat.reduceEqDiff,Nat.reduceAdd,Nat.reduceLeDiff],by simp (disch:=first|assumption|omega|(simp (disch:=first|assumption|omega) only [sB,Nat.reduceAdd,Nat.reduceLT,Nat.reduceLeDiff,Nat.reduceEqDiff,Nat.reduceMul,↓reduceIte];done)|fail) only [sA,↓reduceIte,Nat.reduceLT,Nat.reduceEqDiff,Nat.reduceAdd,Nat.reduceLeDiff],by simp (disch:=first|assumption|omega|(simp (disch:=first|assumption|omega) only [sB,Nat.reduceAdd,Nat.reduceLT,Nat.reduceLeDiff,Nat.reduceEqDiff,Nat.reduceMul,↓reduceIte];done)|fail) only [sA,↓reduceIte,Nat.reduceLT,Nat.reduceEqDiff,Nat.reduceAdd,Nat.reduceLeDiff],by simp (disch:=first|assumption|omega|(simp (disch:=first|assumption|omega) only [sB,Nat.reduceAdd,Nat.reduceLT,Nat.reduceLeDiff,Nat.reduceEqDiff,Nat.reduceMul,↓reduceIte];done)|fail) only [sA,↓reduceIte,Nat.reduceLT,Nat.reduceEqDiff,Nat.reduceAdd,Nat.reduceLeDiff],by simp (disch:=first|assumption|omega|(simp (disch:=first|assumption|omega) only [sB,Nat.reduceAdd,Nat.reduceLT,Nat.reduceLeDiff,Nat.reduceEqDiff,Nat.reduceMul,↓reduceIte];done)|fail) only [sA,↓reduceIte,Nat.reduceLT,Nat.reduceEqDiff,Nat.reduceAdd,Nat.reduceLeDiff]⟩
    generalize hP : appM (hidB hid) s.el 0 t = P at sP fP b0 ⊢
    have c1 : ∀ m h,Gd m h → callFn (LX (cFk kT Try.prog)) m h [(D.agg [.int .i64 (P).form,.int .i64 (P).n,.bool (P).hid,.str (P).name,slD 2 encL (P).levels,slD 6 encT (P).kids])] (cFk kT Try.prog 22) = .ok (.int .i64 (checkT P.abs)) m h := pCheck _ sP
    have gGB : ∀ k,n2 ≤ k → Gd k B := fun k hk j hj => HB.good j (by omega)
    have w : ∀ X,getO (setO B (n + 1) X) (n + 1) = X := fun X => getO_setO_same (by rw [b1]; simp)
    have F : ∀ X i m,n2 ≤ m → finishD n m (setO B (n + 1) (Ob.row 6 [.agg [.int .i64 (X).form,.int .i64 (X).n,.bool (X).hid,.str (X).name,slD 2 encL (X).levels,slD 6 encT (X).kids]])) (.tup [(D.agg [.int .i64 (X).form,.int .i64 (X).n,.bool (X).hid,.str (X).name,slD 2 encL (X).levels,slD 6 encT (X).kids]),.int .i64 i]) = .ok (.tup [encT X,.int .i64 i]) n h := fun X i m hm => by
      rw [encT_eq X]
      exact finish_flat (flat_ti X i) ((HB.set (r := n + 1) (by omega) (fun k _ => lowO_one (low_flat (flatTA X)))).mono (by omega))
    by_cases z2 : checkT P.abs = 0
    · rw [if_pos z2]
      obtain ⟨f1,f2,f3⟩ := good_pts z2
      have cC : ∀ m h,Gd m h → callFn (LX (cFk kT Try.prog)) m h [(D.agg [.int .i64 (P).form,.int .i64 (P).n,.bool (P).hid,.str (P).name,slD 2 encL (P).levels,slD 6 encT (P).kids])] (cFk kT Try.prog 59) = .ok (encT (copyM P)) m h := fun m h hg => pCopy m h hg _ (slim_of _ f1 fP) (by omega) (by omega)
      rw [encT_eq (copyM _)] at cC
      simp (disch:=first|assumption|omega|(simp (disch:=first|assumption|omega) only [sB,Nat.reduceAdd,Nat.reduceLT,Nat.reduceLeDiff,Nat.reduceEqDiff,Nat.reduceMul,↓reduceIte,gGB];done)|fail) only [sA,↓reduceIte,Nat.reduceLT,Nat.reduceEqDiff,Nat.reduceAdd,Nat.reduceLeDiff,b0,b1,g3,g6,c1,z2,cC,w,F,gGB]
    · rw [if_neg z2]
      have F0 := F zeroT
      replace F0 : ∀ i m,n2 ≤ m → finishD n m (setO B (n + 1) (Ob.row 6 [.agg [.int .i64 0,.int .i64 0,.bool false,.str [],.nils,.nils]])) (.tup [(D.agg [.int .i64 0,.int .i64 0,.bool false,.str [],.nils,.nils]),.int .i64 i]) = .ok (.tup [encT zeroT,.int .i64 i]) n h := F0
      simp (disch:=first|assumption|omega|(simp (disch:=first|assumption|omega) only [sB,Nat.reduceAdd,Nat.reduceLT,Nat.reduceLeDiff,Nat.reduceEqDiff,Nat.reduceMul,↓reduceIte,gGB];done)|fail) only [sA,↓reduceIte,Nat.reduceLT,Nat.reduceEqDiff,Nat.reduceAdd,Nat.reduceLeDiff,b0,b1,g3,g6,c1,z2,w,F0,gGB]
  · rw [if_neg z1]
    rw [f36_eq]; unfold c36; rw [callFn_eq (by rfl)]
    simp (disch:=first|assumption|omega|(simp (disch:=first|assumption|omega) only [sB,Nat.reduceAdd,Nat.reduceLT,Nat.reduceLeDiff,Nat.reduceEqDiff,Nat.reduceMul,↓reduceIte,getO_hd,hG,gd_map,gd_tm,gd_zt];done)|fail) only [sA,↓reduceIte,Nat.reduceLT,Nat.reduceEqDiff,Nat.reduceAdd,Nat.reduceLeDiff,l60,slice3_eq,slc3_slD,app_tight,cA,z1,getO_hd,hG,gd_map,gd_tm,gd_zt]
    rfl
end Go.Proofs.Ytdijijblccmfbaa
set_option linter.unusedSimpArgs false
set_option linter.unusedVariables false
namespace Go.Proofs.Ytdijijblccmfbaa
open Go Go.ChangeShapes Go.WideShapes Go.ChangeAt Go.RowKit

set_option maxHeartbeats 4000000 in
theorem pBigL (s : Sl Tm) (hs : ∀ x,x ∈ s.el → saneT x.abs = true) (n : Nat) (h : Hps) (hg : Gd n h) : ∃ b : Bool,callFn (LX (cFk kT Try.prog)) n h [slD 6 encT s] (cFk kT Try.prog 32) = .ok (.bool b) n h := by
  have hgn := hg n (Nat.le_refl _)
  rw [f32_eq]; unfold c32; rw [callFn_eq (by rfl)]
  by_cases l1 : ((s.el.length : Nat) : Int) > 100
  · simp (disch:=first|assumption|omega|(simp (disch:=first|assumption|omega) only [sB,Nat.reduceAdd,Nat.reduceLT,Nat.reduceLeDiff,Nat.reduceEqDiff,Nat.reduceMul,↓reduceIte];done)|fail) only [sA,↓reduceIte,Nat.reduceLT,Nat.reduceEqDiff,Nat.reduceAdd,Nat.reduceLeDiff,l1]
    exact ⟨_,rfl⟩
  · simp (disch:=first|assumption|omega|(simp (disch:=first|assumption|omega) only [sB,Nat.reduceAdd,Nat.reduceLT,Nat.reduceLeDiff,Nat.reduceEqDiff,Nat.reduceMul,↓reduceIte];done)|fail) only [sA,↓reduceIte,Nat.reduceLT,Nat.reduceEqDiff,Nat.reduceAdd,Nat.reduceLeDiff,l1]
    generalize hr : LX (cFk kT Try.prog) (.loop l32_0) _ _ _ = r
    obtain ⟨x,e2,n2,h2,rfl,H2,q⟩ := loop_up hr s.el.length
      (fun i e n' h' => Hp n h n' h' ∧ get (po 0) e = slD 6 encT s ∧ get (po 3) e = .int .i64 (i : Nat))
      (fun x e n' h' => Hp n h n' h' ∧ (x = .exit 0 ∨ (x = .ret ∧ get (po 2) e = .bool true)))
      (by
        rintro e n' h' ⟨H,g0,g3⟩
        unfold l32_0
        simp (disch:=first|assumption|omega|(simp (disch:=first|assumption|omega) only [sB,Nat.reduceAdd,Nat.reduceLT,Nat.reduceLeDiff,Nat.reduceEqDiff,Nat.reduceMul,↓reduceIte];done)|fail) only [sA,↓reduceIte,Nat.reduceLT,Nat.reduceEqDiff,Nat.reduceAdd,Nat.reduceLeDiff,g0,g3]
        exact ⟨_,_,_,_,rfl,by simp,H.mono (by omega),.inl rfl⟩)
      (by
        rintro i e n' h' hi ⟨H,g0,g3⟩
        obtain ⟨v,hv⟩ := bigE s.el[i] (hs _ (List.getElem_mem hi)) (n' + 9) h' (fun k hk => H.good k (by omega))
        unfold l32_0
        cases v with
        | true =>
          simp (disch:=first|assumption|omega|(simp (disch:=first|assumption|omega) only [sB,Nat.reduceAdd,Nat.reduceLT,Nat.reduceLeDiff,Nat.reduceEqDiff,Nat.reduceMul,↓reduceIte];done)|fail) only [sA,↓reduceIte,Nat.reduceLT,Nat.reduceEqDiff,Nat.reduceAdd,Nat.reduceLeDiff,g0,g3,encT_eq,hv]
          exact ⟨_,_,_,_,rfl,.inr ⟨by simp,H.mono (by omega),.inr ⟨rfl,by simp (disch:=first|assumption|omega|(simp (disch:=first|assumption|omega) only [sB,Nat.reduceAdd,Nat.reduceLT,Nat.reduceLeDiff,Nat.reduceEqDiff,Nat.reduceMul,↓reduceIte];done)|fail) only [sA,↓reduceIte,Nat.reduceLT,Nat.reduceEqDiff,Nat.reduceAdd,Nat.reduceLeDiff]⟩⟩⟩
        | false =>
          simp (disch:=first|assumption|omega|(simp (disch:=first|assumption|omega) only [sB,Nat.reduceAdd,Nat.reduceLT,Nat.reduceLeDiff,Nat.reduceEqDiff,Nat.reduceMul,↓reduceIte];done)|fail) only [sA,↓reduceIte,Nat.reduceLT,Nat.reduceEqDiff,Nat.reduceAdd,Nat.reduceLeDiff,g0,g3,encT_eq,hv]
          exact ⟨_,_,_,_,rfl,.inl ⟨rfl,H.mono (by omega),by simp (disch:=first|assumption|omega|(simp (disch:=first|assumption|omega) only [sB,Nat.reduceAdd,Nat.reduceLT,Nat.reduceLeDiff,Nat.reduceEqDiff,Nat.reduceMul,↓reduceIte];done)|fail) only [sA,↓reduceIte,Nat.reduceLT,Nat.reduceEqDiff,Nat.reduceAdd,Nat.reduceLeDiff,g0],by simp (disch:=first|assumption|omega|(simp (disch:=first|assumption|omega) only [sB,Nat.reduceAdd,Nat.reduceLT,Nat.reduceLeDiff,Nat.reduceEqDiff,Nat.reduceMul,↓reduceIte];done)|fail) only [sA,↓reduceIte,Nat.reduceLT,Nat.reduceEqDiff,Nat.reduceAdd,Nat.reduceLeDiff]⟩⟩)
      ⟨(Hp.start hg).mono (by omega),by simp (disch:=first|assumption|omega|(simp (disch:=first|assumption|omega) only [sB,Nat.reduceAdd,Nat.reduceLT,Nat.reduceLeDiff,Nat.reduceEqDiff,Nat.reduceMul,↓reduceIte];done)|fail) only [sA,↓reduceIte,Nat.reduceLT,Nat.reduceEqDiff,Nat.reduceAdd,Nat.reduceLeDiff],by simp (disch:=first|assumption|omega|(simp (disch:=first|assumption|omega) only [sB,Nat.reduceAdd,Nat.reduceLT,Nat.reduceLeDiff,Nat.reduceEqDiff,Nat.reduceMul,↓reduceIte];done)|fail) only [sA,↓reduceIte,Nat.reduceLT,Nat.reduceEqDiff,Nat.reduceAdd,Nat.reduceLeDiff]⟩
    rcases q with rfl | ⟨rfl,g2⟩
    · simp (disch:=first|assumption|omega|(simp (disch:=first|assumption|omega) only [sB,Nat.reduceAdd,Nat.reduceLT,Nat.reduceLeDiff,Nat.reduceEqDiff,Nat.reduceMul,↓reduceIte];done)|fail) only [sA,↓reduceIte,Nat.reduceLT,Nat.reduceEqDiff,Nat.reduceAdd,Nat.reduceLeDiff,finish_flat (d := .bool false) rfl (H2.mono (show n2 ≤ n2 + 1 by omega))]
      exact ⟨_,rfl⟩
    · simp (disch:=first|assumption|omega|(simp (disch:=first|assumption|omega) only [sB,Nat.reduceAdd,Nat.reduceLT,Nat.reduceLeDiff,Nat.reduceEqDiff,Nat.reduceMul,↓reduceIte];done)|fail) only [sA,↓reduceIte,Nat.reduceLT,Nat.reduceEqDiff,Nat.reduceAdd,Nat.reduceLeDiff,g2,finish_flat (d := .bool true) rfl H2]
      exact ⟨_,rfl⟩
theorem tr_nt {e : Tr} {n : Nat} {x : Opd} {h h' : Hps} : touchR e n (.not x) h h' = [] := eqOf rfl
theorem pNum (e : Int) (n : Nat) (h : Hps) (hg : Gd n h) : callFn (LX (cFk kT Try.prog)) n h [.int .i64 e] (cFk kT Try.prog 34) = .ok (.int .i64 e) n h := by
  have hgn := hg n (Nat.le_refl _)
  rw [f34_eq]; unfold c34; rw [callFn_eq (by rfl)]
  simp (disch:=first|assumption|omega|(simp (disch:=first|assumption|omega) only [sB,Nat.reduceAdd,Nat.reduceLT,Nat.reduceLeDiff,Nat.reduceEqDiff,Nat.reduceMul,↓reduceIte];done)|fail) only [sA,↓reduceIte,Nat.reduceLT,Nat.reduceEqDiff,Nat.reduceAdd,Nat.reduceLeDiff]
theorem bindR_zero {s : Sl Tm} {hid : Sl Bool} {t : Tm} (h : (bindR s hid t).2 = 0) : askE (s.el ++ [t]) = 0 ∧ checkT (pisP s hid t).abs = 0 ∧ bindR s hid t = (copyM (pisP s hid t),0) := by
  unfold bindR at h ⊢
  by_cases h1 : askE (s.el ++ [t]) = 0
  · rw [if_pos h1] at h ⊢
    by_cases h2 : checkT (pisP s hid t).abs = 0
    · rw [if_pos h2]; exact ⟨h1,h2,rfl⟩
    · rw [if_neg h2] at h; exact absurd h h2
  · rw [if_neg h1] at h; exact absurd h h1
theorem aplR_zero {s : Sl Tm} {hid : Sl Bool} {t : Tm} (h : (aplR s hid t).2 = 0) : checkT (appM (hidB hid) s.el 0 t).abs = 0 ∧ aplR s hid t = (copyM (appM (hidB hid) s.el 0 t),0) := by
  unfold aplR at h ⊢
  by_cases h1 : askE (s.el ++ [t]) = 0
  · rw [if_pos h1] at h ⊢
    by_cases h2 : checkT (appM (hidB hid) s.el 0 t).abs = 0
    · rw [if_pos h2]; exact ⟨h2,rfl⟩
    · rw [if_neg h2] at h; exact absurd h h2
  · rw [if_neg h1] at h; exact absurd h h1
theorem map_at {α β : Type} {f g : α → β} {a b : List α} (h : a.map f = b.map g) (i : Nat) (ha : i < a.length) (hb : i < b.length) : f a[i] = g b[i] := by
  have := congrArg (fun l => l[i]?) h
  simpa [ha,hb] using this
theorem args_of {A O l : List Tm} (k9 : A.map Tm.abs = (O ++ l).map fun x => cleanT x.abs) (hO : ∀ x,x ∈ O → formedT x.abs = true ∧ sizeT1 x.abs = true) (hl : ∀ x,x ∈ l → formedT x.abs = true ∧ sizeT1 x.abs = true) (hz : ∀ x,x ∈ A → sizeT x.abs ≤ 20000) :
    (A.map copyM).map Tm.abs = (O ++ l).map (fun x => cleanT x.abs) ∧ ∀ x,x ∈ A.map copyM → sizeT1 x.abs = true := by
  have key : ∀ x,x ∈ A → (copyM x).abs = x.abs ∧ sizeT1 x.abs = true := fun x hx => by
    obtain ⟨y,hy,e⟩ := List.mem_map.1 (show x.abs ∈ (O ++ l).map (fun x => cleanT x.abs) by rw [← k9]; exact List.mem_map.2 ⟨x,hx,rfl⟩)
    have hy2 : formedT y.abs = true ∧ sizeT1 y.abs = true := by
      rcases List.mem_append.1 hy with hy | hy
      · exact hO y hy
      · exact hl y hy
    have hf : formedT x.abs = true := by rw [← e,clean_formed]; exact hy2.1
    exact ⟨by rw [copy_abs x hf (hz x hx),← e,clean_clean],by rw [← e]; exact size1_clean _ hy2.2⟩
  refine ⟨?_,fun x hx => ?_⟩
  · rw [← k9,List.map_map]
    exact List.map_congr_left fun x hx => (key x hx).1
  · obtain ⟨y,hy,rfl⟩ := List.mem_map.1 hx
    rw [(key y hy).1]; exact (key y hy).2
set_option maxHeartbeats 8000000 in
set_option maxRecDepth 8000 in
theorem bk_run (s : Sl Tm) (hid : Sl Bool) (t : Tm) (hs : ∀ x,x ∈ s.el → saneT x.abs = true ∧ fewT x.abs = true ∧ sizeT1 x.abs = true) (st : saneT t.abs = true) (wt : fewT t.abs = true) (nt : sizeT1 t.abs = true) : ∃ n' h',callFn (LX (cFk kT Try.prog)) 0 [] [slD 6 encT s,slD 1 encB hid,(D.agg [.int .i64 (t).form,.int .i64 (t).n,.bool (t).hid,.str (t).name,slD 2 encL (t).levels,slD 6 encT (t).kids])] ((cFk kT Try.prog) 6) = .ok (.bool true) n' h' := by
  have F0 := fun m h => finishD_flat (n0 := 0) (n := m) (d := .bool true) rfl (leak_no h)
  have hG : ∀ m,1 ≤ m → Gd m [(0,(Ob.row 6 [.agg [.int .i64 (t).form,.int .i64 (t).n,.bool (t).hid,.str (t).name,slD 2 encL (t).levels,slD 6 encT (t).kids]]))] := fun m hm => by
    rw [gd_tm (by omega)]
    exact fun _ _ => good_nil
  rw [f6_eq]; unfold c6; rw [callFn_eq (by rfl)]
  obtain ⟨x,hx⟩ := pBigL s (fun x hx => (hs x hx).1) 7 [(0,(Ob.row 6 [.agg [.int .i64 (t).form,.int .i64 (t).n,.bool (t).hid,.str (t).name,slD 2 encL (t).levels,slD 6 encT (t).kids]]))] (hG 7 (by decide))
  cases x with
  | true =>
    simp (disch:=first|assumption|omega|(simp (disch:=first|assumption|omega) only [sB,Nat.reduceAdd,Nat.reduceLT,Nat.reduceLeDiff,Nat.reduceEqDiff,Nat.reduceMul,↓reduceIte];done)|fail) only [sA,↓reduceIte,Nat.reduceLT,Nat.reduceEqDiff,Nat.reduceAdd,Nat.reduceLeDiff,aliveV,hx,F0]
    exact ⟨_,_,rfl⟩
  | false =>
  obtain ⟨y,hy⟩ := bigE t st 11 [(0,(Ob.row 6 [.agg [.int .i64 (t).form,.int .i64 (t).n,.bool (t).hid,.str (t).name,slD 2 encL (t).levels,slD 6 encT (t).kids]]))] (hG 11 (by decide))
  cases y with
  | true =>
    simp (disch:=first|assumption|omega|(simp (disch:=first|assumption|omega) only [sB,Nat.reduceAdd,Nat.reduceLT,Nat.reduceLeDiff,Nat.reduceEqDiff,Nat.reduceMul,↓reduceIte];done)|fail) only [sA,↓reduceIte,Nat.reduceLT,Nat.reduceEqDiff,Nat.reduceAdd,Nat.reduceLeDiff,aliveV,hx,hy,F0]
    exact ⟨_,_,rfl⟩
  | false =>
  by_cases l20 : ((s.el.length : Nat) : Int) > 20
  · simp (disch:=first|assumption|omega|(simp (disch:=first|assumption|omega) only [sB,Nat.reduceAdd,Nat.reduceLT,Nat.reduceLeDiff,Nat.reduceEqDiff,Nat.reduceMul,↓reduceIte];done)|fail) only [sA,↓reduceIte,Nat.reduceLT,Nat.reduceEqDiff,Nat.reduceAdd,Nat.reduceLeDiff,aliveV,hx,hy,l20,F0]
    exact ⟨_,_,rfl⟩
  have hl : s.el.length ≤ 20 := by omega
  have cP := pPis s hid t hl (fun x hx => ⟨(hs x hx).1,(hs x hx).2.1⟩) ⟨st,wt⟩
  by_cases e0 : (bindR s hid t).2 = 0
  case neg =>
    generalize bindR s hid t = R at cP e0
    obtain ⟨a,e⟩ := R
    replace e0 : ¬ e = 0 := e0
    simp only [encT_eq a] at cP
    simp (disch:=first|assumption|omega|(simp (disch:=first|assumption|omega) only [sB,Nat.reduceAdd,Nat.reduceLT,Nat.reduceLeDiff,Nat.reduceEqDiff,Nat.reduceMul,↓reduceIte,hG,gd_tm];done)|fail) only [sA,↓reduceIte,Nat.reduceLT,Nat.reduceEqDiff,Nat.reduceAdd,Nat.reduceLeDiff,aliveV,hx,hy,l20,cP,pNum,e0,F0,hG,gd_tm]
    exact ⟨_,_,rfl⟩
  obtain ⟨a0,a1,a2⟩ := bindR_zero e0
  simp only [a2] at cP
  have fP : fewT (pisP s hid t).abs = true := of_pis (fun _ _ _ => few_mk) _ _ _ _ (fun x hx => (hs x hx).2.1) wt
  obtain ⟨g1,g2,g3⟩ := good_pts a1
  have hC := copy_abs _ g1 g2
  generalize hCe : copyM (pisP s hid t) = C at cP hC
  have c1 : formedT C.abs = true := by rw [hC,clean_formed]; exact g1
  have c2 : sizeT C.abs ≤ 20000 := by rw [hC,clean_size]; exact g2
  have c3 : highT C.abs ≤ 500 := by rw [hC,clean_high]; exact g3
  have c4 : fewT C.abs = true := by rw [hC]; exact few_clean _ fP
  have c5 : checkT C.abs = 0 := by rw [hC,clean_check]; exact a1
  have hL := lams_of (hidB hid) s.el 0 t C hC c1 c4 c2 c3
  obtain ⟨s1,s2,s3,s4,s5⟩ := split_pis (hidB hid) s.el 0 t C hC c1 c2
  have tc : checkT t.abs = 0 := askE_zero a0 t (by simp)
  obtain ⟨t1,t2,t3⟩ := good_pts tc
  have r3 : highT (splitM s.el.length C).2.2.abs ≤ 500 := by rw [s3,clean_high]; exact t3
  have r4 : fewT (splitM s.el.length C).2.2.abs = true := by rw [s3]; exact few_clean _ wt
  have cS := pSplit s.el.length C hL (by omega) (sane_of _ c1 c4) c5 (slim_of _ s4 r4) (by omega) (by omega)
  have hR := copy_abs _ s4 s5
  rw [s3,clean_clean] at hR
  generalize (splitM s.el.length C).2.2 = R at *
  generalize (splitM s.el.length C).2.1 = Y at *
  generalize (splitM s.el.length C).1 = X at *
  have xl : X.length = s.el.length := by have := congrArg List.length s1; simpa using this
  have cE := exT (copyM R) (by rw [hR]; exact size1_clean _ nt) (rcl t) (by rw [rcl_abs,hR])
  have cC := rClean t nt
  simp only [encT_eq (rcl t)] at cC
  have cM := sSame (Sl.app X) s xl (by show X.length ≤ _; omega) (fun i hi hi' => map_at s1 i hi hi')
    (fun x hx => by
      obtain ⟨y,hy,e⟩ := List.mem_map.1 (show x.abs ∈ s.el.map (fun x => cleanT x.abs) by rw [← s1]; exact List.mem_map.2 ⟨x,hx,rfl⟩)
      rw [← e]
      exact size1_clean _ (hs y hy).2.2) (fun x hx => (hs x hx).2.2)
  have dl : (Sl.app Y).el.length = s.el.length := s2
  simp only [encT_eq C] at cP
  simp only [encT_eq (copyM R)] at cS
  have hG2 : ∀ m,33 ≤ m → Gd m [(32,(Ob.row 6 [.agg [.int .i64 (C).form,.int .i64 (C).n,.bool (C).hid,.str (C).name,slD 2 encL (C).levels,slD 6 encT (C).kids]])),(0,(Ob.row 6 [.agg [.int .i64 (t).form,.int .i64 (t).n,.bool (t).hid,.str (t).name,slD 2 encL (t).levels,slD 6 encT (t).kids]]))] := fun m hm => by
    rw [gd_tm (by omega),gd_tm (by omega)]
    exact fun _ _ => good_nil
  have hG3 : ∀ m,50 ≤ m → Gd m [(49,(Ob.row 6 [.agg [.int .i64 (copyM R).form,.int .i64 (copyM R).n,.bool (copyM R).hid,.str (copyM R).name,slD 2 encL (copyM R).levels,slD 6 encT (copyM R).kids]])),(32,(Ob.row 6 [.agg [.int .i64 (C).form,.int .i64 (C).n,.bool (C).hid,.str (C).name,slD 2 encL (C).levels,slD 6 encT (C).kids]])),(0,(Ob.row 6 [.agg [.int .i64 (t).form,.int .i64 (t).n,.bool (t).hid,.str (t).name,slD 2 encL (t).levels,slD 6 encT (t).kids]]))] := fun m hm => by
    rw [gd_tm (by omega)]
    exact hG2 m (by omega)
  have hky : ∀ m,50 ≤ m → keysFrom m [(49,(Ob.row 6 [.agg [.int .i64 (copyM R).form,.int .i64 (copyM R).n,.bool (copyM R).hid,.str (copyM R).name,slD 2 encL (copyM R).levels,slD 6 encT (copyM R).kids]])),(32,(Ob.row 6 [.agg [.int .i64 (C).form,.int .i64 (C).n,.bool (C).hid,.str (C).name,slD 2 encL (C).levels,slD 6 encT (C).kids]])),(0,(Ob.row 6 [.agg [.int .i64 (t).form,.int .i64 (t).n,.bool (t).hid,.str (t).name,slD 2 encL (t).levels,slD 6 encT (t).kids]]))] = [] := fun m hm => keys_gd (hG3 m hm)
  have cA := pApply s hid t hl (fun x hx => ⟨(hs x hx).1,(hs x hx).2.1⟩) ⟨st,wt⟩
  by_cases e1 : (aplR s hid t).2 = 0
  case neg =>
    generalize aplR s hid t = Q at cA e1
    obtain ⟨a,e⟩ := Q
    replace e1 : ¬ e = 0 := e1
    simp only [encT_eq a] at cA
    simp (disch:=first|assumption|omega|(simp (disch:=first|assumption|omega) only [sB,Nat.reduceAdd,Nat.reduceLT,Nat.reduceLeDiff,Nat.reduceEqDiff,Nat.reduceMul,↓reduceIte,hG,hG2,hG3,gd_tm,gd_nil];done)|fail) only [sA,↓reduceIte,Nat.reduceLT,Nat.reduceEqDiff,Nat.reduceAdd,Nat.reduceLeDiff,aliveV,hx,hy,l20,cP,pNum,cS,cM,cC,cE,dl,cA,e1,hky,tr_nt,F0,hG,hG2,hG3,gd_tm,gd_nil]
    exact ⟨_,_,rfl⟩
  obtain ⟨u1,u2⟩ := aplR_zero e1
  simp only [u2] at cA
  obtain ⟨v1,v2,v3⟩ := good_pts u1
  have fA : fewT (appM (hidB hid) s.el 0 t).abs = true := of_app (fun _ _ _ => few_mk) _ _ _ _ (fun x hx => (hs x hx).2.1) wt
  have hD := copy_abs _ v1 v2
  have k9 := spn_clean _ (copyM (appM (hidB hid) s.el 0 t)) (appM (hidB hid) s.el 0 t) (Nat.le_refl _) hD v1
  rw [spn_appM] at k9
  generalize hDe : copyM (appM (hidB hid) s.el 0 t) = D2 at cA hD k9
  have w1 : formedT D2.abs = true := by rw [hD,clean_formed]; exact v1
  have w2 : sizeT D2.abs ≤ 20000 := by rw [hD,clean_size]; exact v2
  have w3 : highT D2.abs ≤ 500 := by rw [hD,clean_high]; exact v3
  have w4 : fewT D2.abs = true := by rw [hD]; exact few_clean _ fA
  have w5 : checkT D2.abs = 0 := by rw [hD,clean_check]; exact u1
  have cT := tSpine D2 (sane_of _ w1 w4) w5 (slim_of _ w1 w4) w1 w2 w3
  have cU := rSpine t t1 (slim_of _ t1 wt) t2
  obtain ⟨_,b2,_,_,_,b6⟩ := spn_slim D2 (slim_of _ w1 w4)
  obtain ⟨_,d3⟩ := spn_size1 t t1 nt
  obtain ⟨q1,q2⟩ := args_of k9 d3 (fun x hx => ⟨(good_pts (askE_zero a0 x (by simp [hx]))).1,(hs x hx).2.2⟩) (fun x hx => Nat.le_trans (b2 x hx).2.1 w2)
  generalize spn D2 = S1 at *
  generalize spn t = S2 at *
  obtain ⟨H1,A0,B1⟩ := S1
  obtain ⟨H2,O,B2⟩ := S2
  replace q1 : (A0.map copyM).map Tm.abs = (O ++ s.el).map (fun x => cleanT x.abs) := q1
  replace q2 : ∀ x,x ∈ A0.map copyM → sizeT1 x.abs = true := q2
  replace cT : ∀ n h,Gd n h → callFn (LX (cFk kT Try.prog)) n h [(D.agg [.int .i64 (D2).form,.int .i64 (D2).n,.bool (D2).hid,.str (D2).name,slD 2 encL (D2).levels,slD 6 encT (D2).kids])] (cFk kT Try.prog 28) = .ok (.tup [encT (copyM H1),slD 6 encT (Sl.app (A0.map copyM)),slD 1 encB (Sl.app B1)]) n h := cT
  replace cU : ∀ n h,Gd n h → callFn (LX (cFk kT Try.prog)) n h [(D.agg [.int .i64 (t).form,.int .i64 (t).n,.bool (t).hid,.str (t).name,slD 2 encL (t).levels,slD 6 encT (t).kids])] (cFk kT Try.prog 29) = .ok (.tup [encT H2,slD 6 encT (Sl.made O),slD 1 encB (Sl.made B2)]) n h := cU
  have al0 : A0.length < 20001 := by have : A0.length < sizeT D2.abs := b6; omega
  have al1 : (A0.map copyM).length < 20001 := by rw [List.length_map]; exact al0
  generalize A0.map copyM = A at *
  have al : A.length = O.length + s.el.length := by have := congrArg List.length q1; simpa using this
  have dk : decide (((A.length : Nat) : Int) = ((O.length + s.el.length : Nat) : Int)) = true := decide_eq_true (by omega)
  have ce : ((Sl.app A).cut O.length A.length).el = A.drop O.length := by
    show ((A ++ []).drop O.length).take (A.length - O.length) = _
    rw [List.append_nil,List.take_of_length_le (by rw [List.length_drop]; omega)]
  have cl : ((Sl.app A).cut O.length A.length).el.length = s.el.length := by rw [ce,List.length_drop]; omega
  have cZ := sSame ((Sl.app A).cut O.length A.length) s cl (by rw [cl]; omega)
    (fun i hi hi' => by
      have hj : O.length + i < A.length := by omega
      have e := map_at q1 (O.length + i) hj (by rw [List.length_append]; omega)
      rw [List.getElem_append_right (by omega)] at e
      simp only [ce,List.getElem_drop]
      rw [e]
      simp)
    (fun x hx => q2 x (by
      rw [ce] at hx
      exact List.mem_of_mem_drop hx)) (fun x hx => (hs x hx).2.2)
  have sx : ∀ n h,slcX n h 6 encT (Sl.app A) (.int .i64 (O.length : Nat)) (.int .i64 (A.length : Nat)) = .ok (slD 6 encT ((Sl.app A).cut O.length A.length)) n h := fun n h => slcX_nat (by omega) (by show A.length ≤ A.length + 0; omega)
  simp only [encT_eq D2] at cA
  simp only [encT_eq (copyM H1)] at cT
  simp only [encT_eq H2] at cU
  simp (disch:=first|assumption|omega|(simp (disch:=first|assumption|omega) only [sB,Nat.reduceAdd,Nat.reduceLT,Nat.reduceLeDiff,Nat.reduceEqDiff,Nat.reduceMul,↓reduceIte,hG,hG2,hG3,gd_tm,gd_nil];done)|fail) only [sA,↓reduceIte,Nat.reduceLT,Nat.reduceEqDiff,Nat.reduceAdd,Nat.reduceLeDiff,aliveV,hx,hy,l20,cP,pNum,cS,cM,cC,cE,dl,cA,cT,cU,made_el,dk,sx,cZ,hky,tr_nt,F0,hG,hG2,hG3,gd_tm,gd_nil]
  exact ⟨_,_,rfl⟩
theorem tms_arg {H : Type} (f : Nat) (x : DataW H) (h : Fit Try.prog f 23 x) : ∃ s : Sl Tm,dVal Try.prog f 23 x = slD 6 encT s ∧ (Rows.uptoBulk x ≤ 1048576 → ∀ y,y ∈ s.el → saneT y.abs = true ∧ fewT y.abs = true ∧ sizeT1 y.abs = true) := by
  obtain ⟨s,e6,_,m7⟩ := slice_arg (k := 6) (enc := encT) (R := fun t y => saneT t.abs = true ∧ (Rows.uptoBulk y ≤ 1048576 → fewT t.abs = true ∧ sizeT1 t.abs = true)) Try.underlying23 (by kernel_rfl) h (fun g' y _ hy => tmd_arg g' y hy)
  refine ⟨s,e6,fun hb => ?_⟩
  rcases m7 with ⟨_,h8,_⟩ | ⟨es,sp,rfl,h8,_⟩
  · rw [h8]; exact fun y hy => (by cases hy)
  · rw [bulk_slice] at hb
    intro y hy
    obtain ⟨z,hz,h9⟩ := h8.mem y hy
    have := bulk_mem hz
    exact ⟨h9.1,h9.2 (by omega)⟩
theorem bls_arg {H : Type} (f : Nat) (x : DataW H) (h : Fit Try.prog f 43 x) : ∃ s : Sl Bool,dVal Try.prog f 43 x = slD 1 encB s := by
  obtain ⟨s,e,_,_⟩ := slice_arg (k := 1) (enc := encB) (R := fun _ _ => True) Try.underlying43 (by kernel_rfl) h (fun g' y _ hy => by
    obtain ⟨q,e⟩ := bool_arg Try.underlying4 hy
    exact ⟨q,e,trivial⟩)
  exact ⟨s,e⟩
set_option maxRecDepth 100000 in
theorem bk_lifted (os : Os) (started : os.Started) (H : Type) (enc : TypeId × Value → H) (F : Stop.Interp) :
    ReturnsInHanded {} Try.checked os 6 .any ((Rows.OpenSpec.upto Rows.teleBackSpec).pre6 enc Try.prog Try.f6 Rows.teleBackUptoRow.domain false) (((Rows.OpenSpec.upto Rows.teleBackSpec).at F).post enc Try.prog Try.f6 false true false false) := by
  refine law_cond (K := kT) (C := Try.checked) (s := Rows.OpenSpec.upto Rows.teleBackSpec) (k := Rows.uptoSmall) (tb := 4) rfl own started (by kernel_rfl) Try.func6
    (OpenSpec.witness (enc := enc) (C := Try.checked) (s := Rows.OpenSpec.upto Rows.teleBackSpec) (k := Rows.uptoSmall) rfl false ⟨#[],#[.slice none 0 0,.slice none 0 0,.agg #[.int .i64 0,.int .i64 0,.bool false,.string ByteArray.empty,.slice none 0 0,.slice none 0 0]],[]⟩ 8 (by kernel_rfl) (by kernel_rfl) (by kernel_rfl)
      (x := ([.nil,.nil,.agg [.lit (.int .i64 0),.lit (.int .i64 0),.lit (.bool false),.lit (.string []),.nil,.nil]],[],[])) (by kernel_rfl) rfl (by kernel_rfl))
    mixed laidOut rowed_maps full_slices (by kernel_rfl) rfl (by kernel_rfl) rfl rfl ?_ ?_
  · intro ds hl
    match ds,hl with
    | [_,_,_],_ => rfl
  · intro ds gs l hk hA
    have hA : ArgsAre Try.prog [23,43,25] ds l := hA
    have hb : Rows.uptoBulkAll (ds ++ gs) ≤ 1048576 := of_decide_eq_true hk
    obtain ⟨x,xs,f1,l1,rfl,rfl,h1,hA⟩ := args_cons hA
    obtain ⟨y,ys,f2,l2,rfl,rfl,h2,hA⟩ := args_cons hA
    obtain ⟨z,zs,f3,l3,rfl,rfl,h3,hA⟩ := args_cons hA
    obtain ⟨rfl,rfl⟩ := args_nil hA
    rw [List.cons_append,List.cons_append,List.cons_append,bulk_cons,bulk_cons,bulk_cons] at hb
    obtain ⟨s,e1,w1⟩ := tms_arg _ _ h1
    obtain ⟨hid,e2⟩ := bls_arg _ _ h2
    obtain ⟨a,e3,sa,wa⟩ := tmd_arg _ _ h3
    rw [e1,e2,e3,encT_eq a]
    exact bk_run s hid a (w1 (by omega)) sa (wa (by omega)).1 (wa (by omega)).2

theorem TeleBackUpto_holds : Rows.TeleBackUptoSaid :=
  OpenClaim.holds_of_cond 6 Try.f6 rfl rfl rfl rfl rfl rfl rfl ⟨rfl,rfl,rfl,rfl,rfl⟩ rfl rfl rfl rfl rfl (by kernel_rfl) Try.func6 (by kernel_rfl)
    (of_decide_eq_true (by kernel_rfl)) (by unfold Func.isWrapper; first | (rw [if_pos (by decide +kernel)]; kernel_rfl) | (rw [if_neg (by decide +kernel)]; exact ⟨rfl,rfl⟩))
    (fun os started H enc _ F => bk_lifted os started H enc F)
end Go.Proofs.Ytdijijblccmfbaa
