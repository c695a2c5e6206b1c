/- The closure of raw.InLevels: of a form with levels, each level's answer of level.Subst; the first error is kept in a box. No condition but sizes. -/
import Derived.Test.YtdijijblccmfbaaTO
import Derived.Test.YtdijijblccmfbaaTI
import Derived.Test.YtdijijblccmfbaaCV1
set_option linter.unusedSimpArgs false
set_option linter.unusedVariables false
namespace Go.Proofs.Ytdijijblccmfbaa
open Go
open Nat (reduceAdd reduceLT reduceLeDiff reduceEqDiff reduceMul)

def lvR (args : Sl SLev) (x : SLev) : SLev := ⟨(Lev.subst x.lev (args.el.map SLev.lev)).1.n,Sl.app (Lev.subst x.lev (args.el.map SLev.lev)).1.v⟩
def lvE (args : Sl SLev) (x : SLev) : Int := (Lev.subst x.lev (args.el.map SLev.lev)).2
def errs (args : Sl SLev) : List SLev → Int → Int
  | [],B => B
  | x :: l,B => errs args l (if lvE args x ≠ 0 ∧ B = 0 then lvE args x else B)
theorem errs_snoc (args : Sl SLev) (x : SLev) : ∀ (l : List SLev) (B : Int),errs args (l ++ [x]) B = if lvE args x ≠ 0 ∧ errs args l B = 0 then lvE args x else errs args l B
  | [],B => rfl
  | y :: l,B => by rw [List.cons_append,errs,errs_snoc args x l,errs]
def inT2 (args : Sl SLev) (t : Tm) : Tm := .mk t.form 0 false (if t.form = 10 then t.name else []) (Sl.app (t.levels.el.map (lvR args))) true false [] []
def gI (args : Sl SLev) : Does2 := fun t B => if B ≠ 0 then some (zeroT,B) else if t.form ≠ 2 ∧ t.form ≠ 10 then none else some (inT2 args t,errs args t.levels.el 0)
theorem subI (x : SLev) (args : Sl SLev) (n : Nat) (h : Hps) (hg : Gd n h) (hs : x.vs.el.length < 1000000000000) (ha : args.el.length < 1000000000000) (hz : ∀ a,a ∈ args.el → sizeOk a) :
    callFn (LX (cF Try.prog)) n h [encL x,slD 2 encL args] (cF Try.prog 116) = .ok (.tup [encL (lvR args x),.int .i64 (lvE args x)]) n h := lvSubst n h hg x.n (slD 2 encV x.vs) x.vs.el (adV x.vs) (svV x.vs) hs args ha hz
theorem flat6 (f a : Int) (b : Bool) (c : List Nat) (l : Sl SLev) (ks : Sl Tm) : flat (.agg [.int .i64 f,.int .i64 a,.bool b,.str c,slD 2 encL l,slD 6 encT ks]) = true := flatTA (.mk f a b c l ks.nil ks.full ks.el ks.sp)
theorem errs_take (args : Sl SLev) (ls : List SLev) (i : Nat) (hi : i < ls.length) : errs args (ls.take (i + 1)) 0 = if lvE args ls[i] ≠ 0 ∧ errs args (ls.take i) 0 = 0 then lvE args ls[i] else errs args (ls.take i) 0 := by
  rw [List.take_succ_eq_append_getElem hi,errs_snoc]
theorem low_lv {m : Nat} {f : Int} {nm : List Nat} {d : D} (hd : hasR m 19 d = false) : low m (.agg [.int .i64 f,.int .i64 0,.bool false,.str nm,d,.nils]) := low_agg (fun x hx => by
  rcases List.mem_cons.1 hx with rfl | hx
  · rfl
  rcases List.mem_cons.1 hx with rfl | hx
  · rfl
  rcases List.mem_cons.1 hx with rfl | hx
  · rfl
  rcases List.mem_cons.1 hx with rfl | hx
  · rfl
  rcases List.mem_cons.1 hx with rfl | hx
  · exact hd
  rw [List.mem_singleton.1 hx]; rfl)
set_option maxHeartbeats 8000000 in
theorem loopI {r q p n n0 : Nat} {args : Sl SLev} {ls : Sl SLev} {L : Int} {f : Int} {nm : List Nat} {h h1 : Hps} {e : Tr} {R : Re} (hR : LX (cF Try.prog) (.loop l115_0) e n0 h1 = R) (hpq : p ≠ q) (hqr : q ≠ r) (hr : r < n) (hq : q < n) (hp : p < n) (ha : args.el.length < 1000000000000) (hz : ∀ a,a ∈ args.el → sizeOk a) (hl : ls.el.length ≤ 1000000000) (hs : ∀ x,x ∈ ls.el → x.vs.el.length ≤ 1000000000)
    (hn0 : n + 19 ≤ n0) (H : Hp n h n0 h1) (hb : getO h r = .row 1 [.int .i64 L]) (hbq : getO h q = .row 1 [.int .i64 0]) (hbp : getO h p = .row 1 [slD 2 encL args])
    (b1 : getO h1 (n + 1) = (Ob.row 6 [.agg [.int .i64 0,.int .i64 0,.bool false,.str [],.nils,.nils]])) (b18 : getO h1 (n + 18) = .row 6 [.agg [.int .i64 f,.int .i64 0,.bool false,.str nm,.nils,.nils]])
    (g2 : get (po 2) e = .ptr q 0 0) (g3 : get (po 3) e = .ptr p 0 0) (g6 : get (po 6) e = .ptr (n + 1) 0 0) (g8 : get (po 8) e = .ptr (n + 18) 0 0) (g38 : get (po 38) e = slD 2 encL ls) (g39 : get (po 39) e = .int .i64 (ls.el.length : Nat)) (g40 : get (po 40) e = .int .i64 0) :
    ∃ x e' n' h2,R = .ok x e' n' h2 ∧ x = .exit 0 ∧ n0 ≤ n' ∧ (∃ hb',Hp n hb' n' h2 ∧ Cn2 r q p (slD 2 encL args) L (errs args ls.el 0) h hb') ∧ getO h2 (n + 1) = (Ob.row 6 [.agg [.int .i64 0,.int .i64 0,.bool false,.str [],.nils,.nils]]) ∧ (∃ d,getO h2 (n + 18) = .row 6 [.agg [.int .i64 f,.int .i64 0,.bool false,.str nm,d,.nils]] ∧ Bld 2 encL (n + 19) (ls.el.map (lvR args)) h2 d) ∧ get (po 6) e' = .ptr (n + 1) 0 0 ∧ get (po 8) e' = .ptr (n + 18) 0 0 := by
  have hSn : ∀ x,x ∈ [p,q,r] → x < n := fun x hx => by (rcases List.mem_cons.1 hx with rfl | hx; exact hp; rcases List.mem_cons.1 hx with rfl | hx; exact hq; rw [List.mem_singleton.1 hx]; exact hr)
  refine loop_up hR ls.el.length
    (fun i e' n' h2 => n0 ≤ n' ∧ (∃ hb',Hp n hb' n' h2 ∧ Cn2 r q p (slD 2 encL args) L (errs args (ls.el.take i) 0) h hb') ∧ getO h2 (n + 1) = (Ob.row 6 [.agg [.int .i64 0,.int .i64 0,.bool false,.str [],.nils,.nils]]) ∧ (∃ d,getO h2 (n + 18) = .row 6 [.agg [.int .i64 f,.int .i64 0,.bool false,.str nm,d,.nils]] ∧ Bld 2 encL (n + 19) ((ls.el.take i).map (lvR args)) h2 d) ∧
      get (po 2) e' = .ptr q 0 0 ∧ get (po 3) e' = .ptr p 0 0 ∧ get (po 6) e' = .ptr (n + 1) 0 0 ∧ get (po 8) e' = .ptr (n + 18) 0 0 ∧ get (po 38) e' = slD 2 encL ls ∧ get (po 39) e' = .int .i64 (ls.el.length : Nat) ∧ get (po 40) e' = .int .i64 (i : Nat))
    (fun x e' n' h2 => x = .exit 0 ∧ n0 ≤ n' ∧ (∃ hb',Hp n hb' n' h2 ∧ Cn2 r q p (slD 2 encL args) L (errs args ls.el 0) h hb') ∧ getO h2 (n + 1) = (Ob.row 6 [.agg [.int .i64 0,.int .i64 0,.bool false,.str [],.nils,.nils]]) ∧ (∃ d,getO h2 (n + 18) = .row 6 [.agg [.int .i64 f,.int .i64 0,.bool false,.str nm,d,.nils]] ∧ Bld 2 encL (n + 19) (ls.el.map (lvR args)) h2 d) ∧ get (po 6) e' = .ptr (n + 1) 0 0 ∧ get (po 8) e' = .ptr (n + 18) 0 0)
    ?_ ?_ ⟨Nat.le_refl _,⟨h,H,Upd.refl,hb,hbq,hbp⟩,b1,⟨.nils,b18,.inl ⟨rfl,rfl⟩⟩,g2,g3,g6,g8,g38,g39,g40⟩
  · rintro e' n' h2 ⟨p1,⟨hb',H,V⟩,b1,⟨d,b18,B⟩,g2,g3,g6,g8,g38,g39,g40⟩
    rw [List.take_length] at B V
    unfold l115_0
    simp (disch:=first|assumption|omega|(simp (disch:=first|assumption|omega) only [sB,reduceAdd,reduceLT,reduceLeDiff,reduceEqDiff,reduceMul,↓reduceIte];done)|fail) only [sA,↓reduceIte,reduceLT,reduceEqDiff,reduceAdd,reduceLeDiff,g39,g40]
    exact ⟨_,_,_,_,rfl,by simp,rfl,by omega,⟨hb',H.mono (by omega),V⟩,b1,⟨d,b18,B⟩,by simp +decide only [sG,g6],by simp +decide only [sG,g8]⟩
  · rintro i e' n' h2 hi ⟨p1,⟨hb',H,V⟩,b1,⟨d,b18,B⟩,g2,g3,g6,g8,g38,g39,g40⟩
    have hx := hs ls.el[i] (List.getElem_mem hi)
    have et := errs_take args ls.el i hi
    have em : (ls.el.take (i + 1)).map (lvR args) = (ls.el.take i).map (lvR args) ++ [lvR args ls.el[i]] := by rw [List.take_succ_eq_append_getElem hi,List.map_append]; rfl
    have c0 : ∀ m h,Gd m h → callFn (LX (cF Try.prog)) m h [(D.agg [.int .i64 (ls.el[i].n),slD 2 encV (ls.el[i].vs)]),slD 2 encL args] (cF Try.prog 116) = .ok (.tup [encL (lvR args ls.el[i]),.int .i64 (lvE args ls.el[i])]) m h := fun m h hg => subI ls.el[i] args m h hg (by omega) ha hz
    rw [et,em]
    generalize lvR args ls.el[i] = y at c0 ⊢
    generalize lvE args ls.el[i] = z at c0 ⊢
    generalize errs args (ls.el.take i) 0 = Be at V ⊢
    generalize hX : ls.el[i] = X at c0
    have eX : encL ls.el[i] = (D.agg [.int .i64 (X.n),slD 2 encV (X.vs)]) := by rw [hX]; rfl
    replace c0 : ∀ m h,Gd m h → callFn (LX (cF Try.prog)) m h [(D.agg [.int .i64 (X.n),slD 2 encV (X.vs)]),slD 2 encL args] (cF Try.prog 116) = .ok (.tup [(D.agg [.int .i64 (y.n),slD 2 encV (y.vs)]),.int .i64 z]) m h := c0
    have q0 : getO h2 q = .row 1 [.int .i64 Be] := by rw [H.get hq]; exact V.2.2.1
    have p0 : getO h2 p = .row 1 [slD 2 encL args] := by rw [H.get hp]; exact V.2.2.2
    have H1 : Hp n hb' (n' + 4) ((n' + 3,(Ob.row 2 [.agg [.int .i64 (X.n),slD 2 encV (X.vs)]])) :: h2) := H.box (r := n' + 3) (m := n' + 4) (by omega) (by omega) (flatL _)
    have gG : ∀ m,n' + 4 ≤ m → Gd m ((n' + 3,(Ob.row 2 [.agg [.int .i64 (X.n),slD 2 encV (X.vs)]])) :: h2) := fun m hm k hk => H1.good k (by omega)
    have H2 : Hp n hb' (n' + 14) ((n' + 12,(Ob.row 2 [.agg [.int .i64 (y.n),slD 2 encV (y.vs)]])) :: (n' + 3,(Ob.row 2 [.agg [.int .i64 (X.n),slD 2 encV (X.vs)]])) :: h2) := H1.box (r := n' + 12) (m := n' + 14) (by omega) (by omega) (flatL _)
    have hn1 : n + 19 ≤ n' := by omega
    have B2 : Bld 2 encL (n + 19) ((ls.el.take i).map (lvR args)) ((n' + 12,(Ob.row 2 [.agg [.int .i64 (y.n),slD 2 encV (y.vs)]])) :: (n' + 3,(Ob.row 2 [.agg [.int .i64 (X.n),slD 2 encV (X.vs)]])) :: h2) d := (B.cons (H.good n' (Nat.le_refl _)) (by omega)).cons (H1.good (n' + 4) (Nat.le_refl _)) (by omega)
    have hbo := B.okD
    unfold l115_0
    by_cases hz0 : z = 0
    · obtain ⟨D',H',A⟩ := app_bldx (b := 32) B2 H2 (by omega) (by omega) lowL [y] (by simp; omega)
      have A1 := fun m hm => (A m hm).1
      have A2 := fun m hm => (A m hm).2.1
      have A3 := fun m hm => (A m hm).2.2.1
      have A4 := fun m hm => (A m hm).2.2.2.1
      have A5 : ∀ m,n' + 14 ≤ m → one (D' m) = true := fun m hm => (A2 m hm).one
      have A6 : ∀ m,n' + 14 ≤ m → getO (H' m) (n + 18) = .row 6 [.agg [.int .i64 f,.int .i64 0,.bool false,.str nm,d,.nils]] := fun m hm => by rw [A4 m hm _ (by omega),getO_tl (by omega),getO_tl (by omega)]; exact b18
      simp only [encL,List.map_cons,List.map_nil] at A1
      have hc : ¬ (z ≠ 0 ∧ Be = 0) := fun hh => hh.1 hz0
      rw [if_neg hc]
      subst hz0
      simp (disch:=first|assumption|omega|(simp (disch:=first|assumption|omega) only [sB,reduceAdd,reduceLT,reduceLeDiff,reduceEqDiff,reduceMul,↓reduceIte,app_el,hi,gG,A5];done)|fail) only [sA,↓reduceIte,reduceLT,reduceEqDiff,reduceAdd,reduceLeDiff,g2,g3,g6,g8,g38,g39,g40,eX,c0,p0,b18,hbo,A1,A6,app_el,hi,gG,A5]
      refine ⟨_,_,_,_,rfl,.inl ⟨rfl,by omega,⟨hb',((A3 (n' + 25) (by omega)).set (r := n + 18) (by omega) (fun k hk => lowO_one (low_lv ((A2 (n' + 25) (by omega)).lowF ((A3 (n' + 25) (by omega)).good k hk) 18)))).mono (by omega),V⟩,getO_set2 (A6 _ (by omega)) (by rw [A4 _ (by omega) _ (by omega),getO_tl (by omega),getO_tl (by omega)]; exact b1) (by omega),⟨_,getO_set1 (A6 _ (by omega)),(A2 (n' + 25) (by omega)).set (A6 _ (by omega)) (by omega)⟩,by simp +decide only [sG,g2],by simp +decide only [sG,g3],by simp +decide only [sG,g6],by simp +decide only [sG,g8],by simp +decide only [sG,g38],by simp +decide only [sG,g39],by simp +decide only [sG]⟩⟩
    · by_cases hB0 : Be = 0
      · subst hB0
        rw [if_pos ⟨hz0,rfl⟩]
        have y0 : getO hb' q ≠ .none := by rw [V.2.2.1]; simp
        have V2 : Cn2 r q p (slD 2 encL args) L z h (setO hb' q (.row 1 [.int .i64 z])) := V.trans ⟨Upd.set (by simp) y0 boxI,by rw [getO_setO _ _ _ _ y0,if_neg (fun e => hqr e.symm)]; exact V.2.1,getO_setO_same y0,by rw [getO_setO _ _ _ _ y0,if_neg hpq]; exact V.2.2.2⟩
        have H3 : Hp n (setO hb' q (.row 1 [.int .i64 z])) (n' + 14) ((n' + 12,(Ob.row 2 [.agg [.int .i64 (y.n),slD 2 encV (y.vs)]])) :: (n' + 3,(Ob.row 2 [.agg [.int .i64 (X.n),slD 2 encV (X.vs)]])) :: setO h2 q (.row 1 [.int .i64 z])) := by
          have := H2.setLow (r := q) (x := .row 1 [.int .i64 z]) hq rfl (fun k _ => lowI)
          rw [setO_tl (by omega),setO_tl (by omega)] at this
          exact this
        have z1 : getO (setO h2 q (.row 1 [.int .i64 z])) (n + 1) = (Ob.row 6 [.agg [.int .i64 0,.int .i64 0,.bool false,.str [],.nils,.nils]]) := getO_set2 q0 b1 (by omega)
        have z18 : getO (setO h2 q (.row 1 [.int .i64 z])) (n + 18) = .row 6 [.agg [.int .i64 f,.int .i64 0,.bool false,.str nm,d,.nils]] := getO_set2 q0 b18 (by omega)
        replace B2 : Bld 2 encL (n + 19) ((ls.el.take i).map (lvR args)) ((n' + 12,(Ob.row 2 [.agg [.int .i64 (y.n),slD 2 encV (y.vs)]])) :: (n' + 3,(Ob.row 2 [.agg [.int .i64 (X.n),slD 2 encV (X.vs)]])) :: setO h2 q (.row 1 [.int .i64 z])) d := by
          have := B2.set (q := q) (x := .row 1 [.int .i64 z]) (show getO _ q = .row 1 [.int .i64 0] by rw [getO_tl (by omega),getO_tl (by omega)]; exact q0) (by omega)
          rw [setO_tl (by omega),setO_tl (by omega)] at this
          exact this
        obtain ⟨D',H',A⟩ := app_bldx (b := 32) B2 H3 (by omega) (by omega) lowL [y] (by simp; omega)
        have A1 := fun m hm => (A m hm).1
        have A2 := fun m hm => (A m hm).2.1
        have A3 := fun m hm => (A m hm).2.2.1
        have A4 := fun m hm => (A m hm).2.2.2.1
        have A5 : ∀ m,n' + 14 ≤ m → one (D' m) = true := fun m hm => (A2 m hm).one
        have A6 : ∀ m,n' + 14 ≤ m → getO (H' m) (n + 18) = .row 6 [.agg [.int .i64 f,.int .i64 0,.bool false,.str nm,d,.nils]] := fun m hm => by rw [A4 m hm _ (by omega),getO_tl (by omega),getO_tl (by omega)]; exact z18
        simp only [encL,List.map_cons,List.map_nil] at A1
        simp (disch:=first|assumption|omega|(simp (disch:=first|assumption|omega) only [sB,reduceAdd,reduceLT,reduceLeDiff,reduceEqDiff,reduceMul,↓reduceIte,app_el,hi,gG,A5];done)|fail) only [sA,↓reduceIte,reduceLT,reduceEqDiff,reduceAdd,reduceLeDiff,g2,g3,g6,g8,g38,g39,g40,eX,c0,p0,q0,hz0,z18,hbo,A1,A6,app_el,hi,gG,A5]
        refine ⟨_,_,_,_,rfl,.inl ⟨rfl,by omega,⟨_,((A3 (n' + 27) (by omega)).set (r := n + 18) (by omega) (fun k hk => lowO_one (low_lv ((A2 (n' + 27) (by omega)).lowF ((A3 (n' + 27) (by omega)).good k hk) 18)))).mono (by omega),V2⟩,getO_set2 (A6 _ (by omega)) (by rw [A4 _ (by omega) _ (by omega),getO_tl (by omega),getO_tl (by omega)]; exact z1) (by omega),⟨_,getO_set1 (A6 _ (by omega)),(A2 (n' + 27) (by omega)).set (A6 _ (by omega)) (by omega)⟩,by simp +decide only [sG,g2],by simp +decide only [sG,g3],by simp +decide only [sG,g6],by simp +decide only [sG,g8],by simp +decide only [sG,g38],by simp +decide only [sG,g39],by simp +decide only [sG]⟩⟩
      · rw [if_neg (fun hh => hB0 hh.2)]
        obtain ⟨D',H',A⟩ := app_bldx (b := 32) B2 H2 (by omega) (by omega) lowL [y] (by simp; omega)
        have A1 := fun m hm => (A m hm).1
        have A2 := fun m hm => (A m hm).2.1
        have A3 := fun m hm => (A m hm).2.2.1
        have A4 := fun m hm => (A m hm).2.2.2.1
        have A5 : ∀ m,n' + 14 ≤ m → one (D' m) = true := fun m hm => (A2 m hm).one
        have A6 : ∀ m,n' + 14 ≤ m → getO (H' m) (n + 18) = .row 6 [.agg [.int .i64 f,.int .i64 0,.bool false,.str nm,d,.nils]] := fun m hm => by rw [A4 m hm _ (by omega),getO_tl (by omega),getO_tl (by omega)]; exact b18
        simp only [encL,List.map_cons,List.map_nil] at A1
        simp (disch:=first|assumption|omega|(simp (disch:=first|assumption|omega) only [sB,reduceAdd,reduceLT,reduceLeDiff,reduceEqDiff,reduceMul,↓reduceIte,app_el,hi,gG,A5];done)|fail) only [sA,↓reduceIte,reduceLT,reduceEqDiff,reduceAdd,reduceLeDiff,g2,g3,g6,g8,g38,g39,g40,eX,c0,p0,q0,hz0,hB0,b18,hbo,A1,A6,app_el,hi,gG,A5]
        refine ⟨_,_,_,_,rfl,.inl ⟨rfl,by omega,⟨hb',((A3 (n' + 25) (by omega)).set (r := n + 18) (by omega) (fun k hk => lowO_one (low_lv ((A2 (n' + 25) (by omega)).lowF ((A3 (n' + 25) (by omega)).good k hk) 18)))).mono (by omega),V⟩,getO_set2 (A6 _ (by omega)) (by rw [A4 _ (by omega) _ (by omega),getO_tl (by omega),getO_tl (by omega)]; exact b1) (by omega),⟨_,getO_set1 (A6 _ (by omega)),(A2 (n' + 25) (by omega)).set (A6 _ (by omega)) (by omega)⟩,by simp +decide only [sG,g2],by simp +decide only [sG,g3],by simp +decide only [sG,g6],by simp +decide only [sG,g8],by simp +decide only [sG,g38],by simp +decide only [sG,g39],by simp +decide only [sG]⟩⟩
set_option maxHeartbeats 8000000 in
set_option maxRecDepth 8000 in
theorem doesI {r q p : Nat} {args : Sl SLev} (hqr : q ≠ r) (hpr : p ≠ r) (hpq : p ≠ q) (ha : args.el.length < 1000000000000) (hz : ∀ a,a ∈ args.el → sizeOk a) : Does2Ok (.fn 115 [] [.ptr q 0 0,.ptr p 0 0]) r q p (slD 2 encL args) (gI args) := by
  intro t hsl d B hd0 hd n h L hg hr hq hp hb hbq hbp
  obtain ⟨_,_,hth,_⟩ := slim_tm hsl
  have hgn := hg n (Nat.le_refl _)
  have H0 : Hp n h (n + 2) ((n + 1,(Ob.row 6 [.agg [.int .i64 0,.int .i64 0,.bool false,.str [],.nils,.nils]])) :: (n,(Ob.row 6 [.agg [.int .i64 (t).form,.int .i64 (t).n,.bool (t).hid,.str (t).name,slD 2 encL (t).levels,slD 6 encT (t).kids]])) :: h) := ((Hp.start hg).box (r := n) (m := n + 1) (Nat.le_refl _) (by omega) (flatTA t)).box (r := n + 1) (m := n + 2) (k := 6) (d := (D.agg [.int .i64 0,.int .i64 0,.bool false,.str [],.nils,.nils])) (by omega) (by omega) rfl
  have hG : ∀ m,n ≤ m → Gd m h := fun m hm => hg.mono hm
  refine ⟨fun hn => ?_,fun x hx => ?_⟩
  · unfold gI at hn
    by_cases h0 : B ≠ 0
    · rw [if_pos h0] at hn; cases hn
    · rw [if_neg h0] at hn
      have hB : B = 0 := by omega
      subst hB
      by_cases h1 : t.form ≠ 2 ∧ t.form ≠ 10
      · obtain ⟨f2,f10⟩ := h1
        rw [callX_fn]
        rw [f115_eq]; unfold c115; rw [callFn_eq (by rfl)]
        simp (disch:=first|assumption|omega|(simp (disch:=first|assumption|omega) only [sB,reduceAdd,reduceLT,reduceLeDiff,reduceEqDiff,reduceMul,↓reduceIte];done)|fail) only [sA,↓reduceIte,reduceLT,reduceEqDiff,reduceAdd,reduceLeDiff,hbq,f2,f10]
      · rw [if_neg h1] at hn; cases hn
  · unfold gI at hx
    by_cases h0 : B ≠ 0
    · rw [if_pos h0] at hx
      injection hx with hx
      subst hx
      rw [callX_fn]
      rw [f115_eq]; unfold c115; rw [callFn_eq (by rfl)]
      by_cases f2 : t.form = 2
      · simp (disch:=first|assumption|omega|(simp (disch:=first|assumption|omega) only [sB,reduceAdd,reduceLT,reduceLeDiff,reduceEqDiff,reduceMul,↓reduceIte];done)|fail) only [sA,↓reduceIte,reduceLT,reduceEqDiff,reduceAdd,reduceLeDiff,hbq,f2,h0]
        exact ⟨h,rfl,Upd.refl,hb,hbq,hbp⟩
      · by_cases f10 : t.form = 10
        · simp (disch:=first|assumption|omega|(simp (disch:=first|assumption|omega) only [sB,reduceAdd,reduceLT,reduceLeDiff,reduceEqDiff,reduceMul,↓reduceIte];done)|fail) only [sA,↓reduceIte,reduceLT,reduceEqDiff,reduceAdd,reduceLeDiff,hbq,f2,f10,h0]
          exact ⟨h,rfl,Upd.refl,hb,hbq,hbp⟩
        · simp (disch:=first|assumption|omega|(simp (disch:=first|assumption|omega) only [sB,reduceAdd,reduceLT,reduceLeDiff,reduceEqDiff,reduceMul,↓reduceIte];done)|fail) only [sA,↓reduceIte,reduceLT,reduceEqDiff,reduceAdd,reduceLeDiff,hbq,f2,f10,h0]
          exact ⟨h,rfl,Upd.refl,hb,hbq,hbp⟩
    · rw [if_neg h0] at hx
      have hB : B = 0 := by omega
      subst hB
      by_cases h1 : t.form ≠ 2 ∧ t.form ≠ 10
      · rw [if_pos h1] at hx; cases hx
      · rw [if_neg h1] at hx
        injection hx with hx
        subst hx
        rw [callX_fn]
        rw [f115_eq]; unfold c115; rw [callFn_eq (by rfl)]
        have hgo : ∀ (f : Int) (nm : List Nat) (n0 : Nat) (e : Tr) (h1 : Hps),encT (inT2 args t) = .agg [.int .i64 f,.int .i64 0,.bool false,.str nm,slD 2 encL (Sl.app (t.levels.el.map (lvR args))),.nils] → thin t → n + 19 ≤ n0 → Hp n h n0 h1 → getO h1 (n + 1) = (Ob.row 6 [.agg [.int .i64 0,.int .i64 0,.bool false,.str [],.nils,.nils]]) → getO h1 (n + 18) = .row 6 [.agg [.int .i64 f,.int .i64 0,.bool false,.str nm,.nils,.nils]] → t.levels.el.length ≤ 1000000000 → (∀ x,x ∈ t.levels.el → x.vs.el.length ≤ 1000000000) →
            get (po 2) e = .ptr q 0 0 → get (po 3) e = .ptr p 0 0 → get (po 6) e = .ptr (n + 1) 0 0 → get (po 8) e = .ptr (n + 18) 0 0 → get (po 38) e = slD 2 encL t.levels → get (po 39) e = .int .i64 (t.levels.el.length : Nat) → get (po 40) e = .int .i64 0 →
            ∃ h',finish n [RV.cell (po 6) true 6,RV.tmp (po 7)] (seqR (LX (cF Try.prog)) ((DCode.reg [DOper.op (some (po 64)) none (DOp.load true 6 (Opd.s (po 8))),DOper.op none none (DOp.store true 6 (Opd.s (po 6)) (Opd.s (po 64))),DOper.op (some (po 7)) none (DOp.mv (Opd.k (D.bool true)))]).seq DCode.ret) (blockR 0 (LX (cF Try.prog) (.loop l115_0) e n0 h1))) = .ok (.tup [encT (inT2 args t),.bool true]) n h' ∧ Cn2 r q p (slD 2 encL args) L (errs args t.levels.el 0) h h' := by
          intro f nm n0 e h1 he ht hn0 H b1 b18 l1 l2 g2 g3 g6 g8 g38 g39 g40
          generalize hR : LX (cF Try.prog) (.loop l115_0) _ _ _ = R
          obtain ⟨x,e',n',h2,rfl,rfl,p1,⟨hb',H2,V⟩,z1,⟨d,z18,B⟩,k6,k8⟩ := loopI hR hpq hqr hr hq hp ha hz l1 l2 hn0 H hb hbq hbp b1 b18 g2 g3 g6 g8 g38 g39 g40
          refine ⟨hb',?_,V⟩
          have hd1 := B.okD
          have w2 : ∀ X,getO (setO h2 (n + 1) X) (n + 1) = X := fun X => getO_setO_same (by rw [z1]; simp)
          have BL : ∀ X,Bld 2 encL n (t.levels.el.map (lvR args)) (setO h2 (n + 1) X) d := fun X => (B.set z1 (by omega)).wide (by omega)
          have HH : Hp n hb' (n' + 3) (setO h2 (n + 1) (.row 6 [.agg [.int .i64 f,.int .i64 0,.bool false,.str nm,d,.nils]])) := (H2.set (r := n + 1) (by omega) (fun k hk => lowO_one (low_lv (B.lowF (H2.good k hk) 18)))).mono (by omega)
          have F := finishD_fz (n := n' + 3) (Fz.tup (.cons (Fz.agg (.cons ((Fz.of1 (d := .int .i64 f) rfl).mono (show 1 ≤ 3 by omega)) (.cons ((Fz.of1 (d := .int .i64 0) rfl).mono (show 1 ≤ 3 by omega)) (.cons ((Fz.of1 (d := .bool false) rfl).mono (show 1 ≤ 3 by omega)) (.cons ((Fz.of1 (d := .str nm) rfl).mono (show 1 ≤ 3 by omega)) (.cons (Fz.bld elemL (BL _)) (.cons ((Fz.of1 (d := .nils) rfl).mono (show 1 ≤ 3 by omega)) .nil))))))) (.cons ((Fz.of1 (d := .bool true) rfl).mono (show 1 ≤ 4 by omega)) .nil))) (by omega) HH.leak
          rw [he]
          simp (disch:=first|assumption|omega|(simp (disch:=first|assumption|omega) only [sB,reduceAdd,reduceLT,reduceLeDiff,reduceEqDiff,reduceMul,↓reduceIte];done)|fail) only [sA,↓reduceIte,reduceLT,reduceEqDiff,reduceAdd,reduceLeDiff,k6,k8,z1,z18,w2,hd1]
          rw [F,HH.drop]
        by_cases f2 : t.form = 2
        · obtain ⟨l1,l2⟩ := hth (.inl f2)
          simp (disch:=first|assumption|omega|(simp (disch:=first|assumption|omega) only [sB,reduceAdd,reduceLT,reduceLeDiff,reduceEqDiff,reduceMul,↓reduceIte];done)|fail) only [sA,↓reduceIte,reduceLT,reduceEqDiff,reduceAdd,reduceLeDiff,hbq,f2]
          exact hgo 2 [] _ _ _ (by rw [encT_eq]; unfold inT2; show D.agg [.int .i64 t.form,_,_,.str (if t.form = 10 then _ else _),_,_] = _; rw [f2]; rfl) hth (by omega) (((((Hp.start hg).box (r := n) (m := n + 1) (Nat.le_refl _) (by omega) (flat6 _ _ _ _ _ _)).box (r := n + 1) (m := n + 2) (k := 6) (d := (D.agg [.int .i64 0,.int .i64 0,.bool false,.str [],.nils,.nils])) (by omega) (by omega) rfl).box (r := n + 18) (m := n + 19) (k := 6) (d := .agg [.int .i64 2,.int .i64 0,.bool false,.str [],.nils,.nils]) (by omega) (by omega) rfl).mono (by omega)) (by rw [getO_tl (by omega),getO_hd]) getO_hd l1 l2 (by simp +decide only [sG]) (by simp +decide only [sG]) (by simp +decide only [sG]) (by simp +decide only [sG]) (by simp +decide only [sG]) (by simp +decide only [sG]) (by simp +decide only [sG])
        · have f10 : t.form = 10 := by omega
          obtain ⟨l1,l2⟩ := hth (.inr f10)
          simp (disch:=first|assumption|omega|(simp (disch:=first|assumption|omega) only [sB,reduceAdd,reduceLT,reduceLeDiff,reduceEqDiff,reduceMul,↓reduceIte];done)|fail) only [sA,↓reduceIte,reduceLT,reduceEqDiff,reduceAdd,reduceLeDiff,hbq,f2,f10]
          exact hgo 10 t.name _ _ _ (by rw [encT_eq]; unfold inT2; show D.agg [.int .i64 t.form,_,_,.str (if t.form = 10 then _ else _),_,_] = _; rw [f10]; rfl) hth (by omega) (((((Hp.start hg).box (r := n) (m := n + 1) (Nat.le_refl _) (by omega) (flat6 _ _ _ _ _ _)).box (r := n + 1) (m := n + 2) (k := 6) (d := (D.agg [.int .i64 0,.int .i64 0,.bool false,.str [],.nils,.nils])) (by omega) (by omega) rfl).box (r := n + 18) (m := n + 19) (k := 6) (d := .agg [.int .i64 10,.int .i64 0,.bool false,.str t.name,.nils,.nils]) (by omega) (by omega) rfl).mono (by omega)) (by rw [getO_tl (by omega),getO_hd]) getO_hd l1 l2 (by simp +decide only [sG]) (by simp +decide only [sG]) (by simp +decide only [sG]) (by simp +decide only [sG]) (by simp +decide only [sG]) (by simp +decide only [sG]) (by simp +decide only [sG])
end Go.Proofs.Ytdijijblccmfbaa
