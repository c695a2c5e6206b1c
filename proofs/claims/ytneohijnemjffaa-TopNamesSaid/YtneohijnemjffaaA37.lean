/- Regions that leave their order open, step by step; tuples, tests. No condition. -/
import Derived.Test.YtneohijnemjffaaA36
set_option linter.unusedSimpArgs false
set_option linter.unusedVariables false
namespace Go.Proofs.Ytneohijnemjffaa
open Go

section
variable {F : Nat → DFn} {call : CallF} {e : Tr} {n : Nat} {h : Hps}
theorem opP_mv {x : Opd} : opP call e n h (.mv x) = .ok (ev e x) n h := eqOf rfl
theorem opP_pick {c a b : Opd} : opP call e n h (.pick c a b) = pickD n h (ev e a) (ev e b) (ev e c) := eqOf rfl
theorem opP_new {k : Nat} {z : D} : opP call e n h (.new k z) = boxD n h k z := eqOf rfl
theorem opP_box {k : Nat} {x : Opd} : opP call e n h (.box k x) = boxD n h k (ev e x) := eqOf rfl
theorem opP_build {zs : List D} {ps : List (Nat × Nat × Opd)} : opP call e n h (.build zs ps) = buildD n h (fillP e ps (some zs)) := eqOf rfl
theorem opP_bsl {k : Nat} {es : List Opd} : opP call e n h (.bsl k es) = bslD n h k (evs e es) := eqOf rfl
theorem opP_load {ag : Bool} {k : Nat} {a : Opd} : opP call e n h (.load ag k a) = loadD ag k n h (ev e a) := eqOf rfl
theorem opP_store {ag : Bool} {k : Nat} {a x : Opd} : opP call e n h (.store ag k a x) = storeD ag k (ev e x) n h (ev e a) := eqOf rfl
theorem opP_bin {op : BinOp} {x y : Opd} : opP call e n h (.bin op x y) = okD n h (binD op (ev e x) (ev e y)) := eqOf rfl
theorem opP_cmp {b : Bool} {t : EK} {x y : Opd} : opP call e n h (.cmp b t x y) = obR n h b (eqD t (ev e x) (ev e y)) := eqOf rfl
theorem opP_not {x : Opd} : opP call e n h (.not x) = notD n h (ev e x) := eqOf rfl
theorem opP_neg {x : Opd} : opP call e n h (.neg x) = negD n h (ev e x) := eqOf rfl
theorem opP_faddr {off : Nat} {x : Opd} : opP call e n h (.faddr off x) = faddrD n h off (ev e x) := eqOf rfl
theorem opP_fld {ag : Bool} {off k : Nat} {x : Opd} : opP call e n h (.fld ag off k x) = fldD n h ag off k (ev e x) := eqOf rfl
theorem opP_iaddr {k : Nat} {x i : Opd} : opP call e n h (.iaddr k x i) = natR (iaddrD n h k (ev e x)) (ev e i) := eqOf rfl
theorem opP_sidx {x i : Opd} : opP call e n h (.sidx x i) = natR (sidxD n h (ev e x)) (ev e i) := eqOf rfl
theorem opP_aidx {ag : Bool} {k m : Nat} {x i : Opd} : opP call e n h (.aidx ag k m x i) = natR (aidxD n h ag k m (ev e x)) (ev e i) := eqOf rfl
theorem opP_slice {k : Nat} {x : Opd} {lo hi mx : Option Opd} : opP call e n h (.slice k x lo hi mx) = sliceD n h k e (ev e x) lo hi mx := eqOf rfl
theorem opP_sslice {x : Opd} {lo hi : Option Opd} : opP call e n h (.sslice x lo hi) = ssliceD n h e (ev e x) lo hi := eqOf rfl
theorem opP_ext {x : Opd} {i : Nat} : opP call e n h (.ext x i) = extD n h i (ev e x) := eqOf rfl
theorem opP_mkfn {f : Nat} {a c : List Opd} : opP call e n h (.mkfn f a c) = .ok (.fn f (evs e a) (evs e c)) n h := eqOf rfl
theorem opP_mksl {k b : Nat} {z : D} {x : Opd} : opP call e n h (.mksl k b z x) = natR (mkslD n h k b z) (ev e x) := eqOf rfl
theorem opP_nilck {x : Opd} : opP call e n h (.nilck x) = nilckD n h (ev e x) := eqOf rfl
theorem opP_look {t : EK} {z : D} {ok : Bool} {m i : Opd} : opP call e n h (.look t z ok m i) = lookD n h t z ok (ev e i) (ev e m) := eqOf rfl
theorem opP_cvi {k : IntKind} {x : Opd} : opP call e n h (.cvi k x) = cviD n h k (ev e x) := eqOf rfl
theorem opP_paddr {k m : Nat} {x i : Opd} : opP call e n h (.paddr k m x i) = natR (paddrD n h k m (ev e x)) (ev e i) := eqOf rfl
theorem opP_mdel {t : EK} {m k : Opd} : opP call e n h (.mdel t m k) = mdelD n h t (ev e k) (ev e m) := eqOf rfl
theorem opP_mupd {t : EK} {m k x : Opd} : opP call e n h (.mupd t m k x) = mupdD n h t (ev e k) (ev e x) (ev e m) := eqOf rfl
theorem opP_len {t : EK} {x : Opd} : opP call e n h (.len t x) = lenD n h t (ev e x) := eqOf rfl
theorem opP_app {k b : Nat} {s x : Opd} : opP call e n h (.app k b s x) = appD n h k b (ev e s) (view k h (ev e x)) := eqOf rfl
theorem opP_max {x y : Opd} : opP call e n h (.max x y) = maxD n h (ev e x) (ev e y) := eqOf rfl
theorem opP_min {x y : Opd} : opP call e n h (.min x y) = minD n h (ev e x) (ev e y) := eqOf rfl
theorem opP_mkmap : opP call e n h .mkmap = .ok (.mp n) n ((n, .map []) :: h) := eqOf rfl

theorem opP_call {f : Opd} {args : List Opd} : opP call e n h (.call f args) = pureC n h (ev e f) (evs e args) (call 0 [] (ev e f) (evs e args)) := eqOf rfl
theorem pureC_ok {f d : D} {args : List D} {m : Nat} {g : Hps} (h1 : clo 20 f = true) (h2 : args.all (clo 20) = true) (h3 : clo 20 d = true) : pureC n h f args (.ok d m g) = .ok d n h := by
  show ifR (Bool.and (clo 20 f) (Bool.and (allL (clo 20) args) (clo 20 d))) (.ok d n h) = _
  rw [allL_eq, h1, h2, h3]; rfl
theorem runDraw_nil {un ts : List (List Nat)} : runDraw call [] un ts e n h = .ok .normal e n h := eqOf rfl
theorem runDraw_none {dst : Option Po} {o : DOp} {l : List DOper} {ut ts : List (List Nat)} : runDraw call (.op dst none o :: l) ([] :: ut) ts e n h = afterOp (runDraw call l ut (touch e n o :: ts)) e dst (opP call e n h o) := eqOf rfl
theorem runDraw_un {dst : Option Po} {o : DOp} {l : List DOper} {u : Nat} {us : List Nat} {ut ts : List (List Nat)} (ha : apartAll (touch e n o) ts (u :: us) = true) :
    runDraw call (.op dst none o :: l) ((u :: us) :: ut) ts e n h = afterOp (runDraw call l ut (touch e n o :: ts)) e dst (opP call e n h o) := by
  show Bool.rec (motive := fun _ => Re) .bad (afterOp (runDraw call l ut (touch e n o :: ts)) e dst (opP call e n h o)) (apartAll (touch e n o) ts (u :: us)) = _
  rw [ha]
theorem runDraw_some {dst : Option Po} {g : Po × Bool} {o : DOp} {l : List DOper} {ut ts : List (List Nat)} {u : List Nat} : runDraw call (.op dst (some g) o :: l) (u :: ut) ts e n h = stepQ call (runDraw call l ut) ts e n h u dst o (wantB g.2 (get g.1 e)) := eqOf rfl
theorem stepQ_true {K : List (List Nat) → Tr → Nat → Hps → Re} {dst : Option Po} {o : DOp} {ts : List (List Nat)} : stepQ call K ts e n h [] dst o (.ok true) = afterOp (K (touch e n o :: ts)) e dst (opP call e n h o) := eqOf rfl
theorem stepQ_false {K : List (List Nat) → Tr → Nat → Hps → Re} {dst : Option Po} {o : DOp} {ts : List (List Nat)} {u : List Nat} : stepQ call K ts e n h u dst o (.ok false) = K ([] :: ts) (putE e dst (.tup [])) (n + 1) h := eqOf rfl
theorem clo_int {f : Nat} {q : IntKind} {a : Int} : clo (f + 1) (.int q a) = true := eqOf rfl
theorem clo_bool {f : Nat} {a : Bool} : clo (f + 1) (.bool a) = true := eqOf rfl
theorem clo_str {f : Nat} {a : List Nat} : clo (f + 1) (.str a) = true := eqOf rfl
theorem clo_nils {f : Nat} : clo (f + 1) .nils = true := eqOf rfl
theorem clo_sl {f q : Nat} {a b : List D} {c : Bool} : clo (f + 1) (.sl q a b c) = true := eqOf rfl
theorem clo_fn0 {f g : Nat} : clo (f + 1) (.fn g [] []) = true := eqOf rfl
theorem clo_agg {f : Nat} {cs : List D} : clo (f + 1) (.agg cs) = cs.all (clo f) := by
  show allL (clo f) cs = _
  rw [allL_eq]
theorem clo_tup {f : Nat} {cs : List D} : clo (f + 1) (.tup cs) = cs.all (clo f) := by
  show allL (clo f) cs = _
  rw [allL_eq]
theorem notD_bool {b : Bool} : notD n h (.bool b) = .ok (.bool (!b)) n h := eqOf rfl
theorem extD_tup {i : Nat} {vs : List D} : extD n h i (.tup vs) = okD n h (vs.getD i .junk) := by
  show okD n h (nth vs i) = _
  rw [nth_eq]
theorem eqD_bool {a b : Bool} : eqD .bool (.bool a) (.bool b) = .ok (a == b) := by
  show OB.ok (eqB a b) = _
  rw [eqB_eq]
theorem obR_pos {b : Bool} : obR n h false (.ok b) = .ok (.bool b) n h := by cases b <;> exact eqOf rfl
theorem obR_neg {b : Bool} : obR n h true (.ok b) = .ok (.bool (!b)) n h := by cases b <;> exact eqOf rfl
theorem maxD_int {a b : Int} : maxD n h (.int .i64 a) (.int .i64 b) = .ok (.int .i64 (max a b)) n h := by
  show Rd.ok (.int .i64 (Bool.rec (motive := fun _ => Int) a b (ltI a b))) n h = _
  rw [ltI_eq]
  by_cases hab : a < b
  · rw [decide_eq_true hab, Int.max_eq_right (Int.le_of_lt hab)]
  · rw [decide_eq_false hab, Int.max_eq_left (Int.not_lt.1 hab)]
theorem minD_int {a b : Int} : minD n h (.int .i64 a) (.int .i64 b) = .ok (.int .i64 (min a b)) n h := by
  show Rd.ok (.int .i64 (Bool.rec (motive := fun _ => Int) a b (ltI b a))) n h = _
  rw [ltI_eq]
  by_cases hab : b < a
  · rw [decide_eq_true hab, Int.min_eq_right (Int.le_of_lt hab)]
  · rw [decide_eq_false hab, Int.min_eq_left (Int.not_lt.1 hab)]
end
end Go.Proofs.Ytneohijnemjffaa
