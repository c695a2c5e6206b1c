/- The run without fuel, step by step: the equations by which a run over data with names in it goes on. No condition. -/
import Derived.Test.YtdijijblccmfbaaA32
set_option linter.unusedSimpArgs false
set_option linter.unusedVariables false
namespace Go.Proofs.Ytdijijblccmfbaa
open Go

theorem eqOf {α : Type} {a b : α} (h : a = b) : a = b := by cases h; exact Eq.refl a

section
variable {F : Nat → DFn} {call : CallF} {e : Tr} {n : Nat} {h : Hps}

theorem LX_skip : LX F .skip e n h = .ok .normal e n h := by rw [LX_eq]; rfl
theorem LX_ret : LX F .ret e n h = .ok .ret e n h := by rw [LX_eq]; rfl
theorem LX_exit {i : Nat} : LX F (.exit i) e n h = .ok (.exit i) e n h := by rw [LX_eq]; rfl
theorem LX_seq {a b : DCode} : LX F (.seq a b) e n h = seqR (LX F) b (LX F a e n h) := by rw [LX_eq]; rfl
theorem LX_cond {c : Opd} {a b : DCode} : LX F (.cond c a b) e n h = condR (LX F) a b e n h (ev e c) := by rw [LX_eq]; rfl
theorem LX_block {i : Nat} {b : DCode} : LX F (.block i b) e n h = blockR i (LX F b e n h) := by rw [LX_eq]; rfl
theorem LX_loop {b : DCode} : LX F (.loop b) e n h = seqR (LX F) (.loop b) (LX F b e n h) := by rw [LX_eq]; rfl
theorem LX_scope {b : DCode} : LX F (.scope b) e n h = LX F b e n h := by rw [LX_eq]; rfl
theorem LX_reg {ops : List DOper} : LX F (.reg ops) e n h = runOps (callX F (LX F)) ops e n h := by rw [LX_eq]; rfl
theorem LX_draw {un : List (List Nat)} {bar : List Bool} {ops : List DOper} : LX F (.draw un bar ops) e n h = runDraw stride (callX F (LX F)) ops un bar [] e n h := by rw [LX_eq]; rfl
theorem LX_rng {f : Opd} {ps : List Po} {a b : DCode} : LX F (.rng f ps a b) e n h = rngF F (LX F) e n h ps a b (ev e f) := by rw [LX_eq]; rfl

theorem seqR_normal {X : RunF} {b : DCode} : seqR X b (.ok .normal e n h) = X b e n h := eqOf rfl
theorem seqR_exit {X : RunF} {b : DCode} {i : Nat} : seqR X b (.ok (.exit i) e n h) = .ok (.exit i) e n h := eqOf rfl
theorem seqR_ret {X : RunF} {b : DCode} : seqR X b (.ok .ret e n h) = .ok .ret e n h := eqOf rfl
theorem condR_true {X : RunF} {a b : DCode} : condR X a b e n h (.bool true) = X a e n h := eqOf rfl
theorem condR_false {X : RunF} {a b : DCode} : condR X a b e n h (.bool false) = X b e n h := eqOf rfl
theorem blockR_normal {i : Nat} : blockR i (.ok .normal e n h) = .ok .normal e n h := eqOf rfl
theorem blockR_ret {i : Nat} : blockR i (.ok .ret e n h) = .ok .ret e n h := eqOf rfl
theorem blockR_exit {i j : Nat} : blockR i (.ok (.exit j) e n h) = if j = i then .ok .normal e n h else .ok (.exit j) e n h := by
  show Bool.rec (motive := fun _ => Re) (.ok (.exit j) e n h) (.ok .normal e n h) (Nat.beq j i) = _
  exact beq_rec _ _ _ _

theorem runOps_nil : runOps call [] e n h = .ok .normal e n h := eqOf rfl
theorem runOps_none {dst : Option Po} {o : DOp} {l : List DOper} : runOps call (.op dst none o :: l) e n h = afterOp (runOps call l) e dst (opC call e n h o) := eqOf rfl
theorem runOps_some {dst : Option Po} {g : Po × Bool} {o : DOp} {l : List DOper} : runOps call (.op dst (some g) o :: l) e n h = stepW call (runOps call l) e n h dst o (wantB g.2 (get g.1 e)) := eqOf rfl
theorem stepW_true {K : Tr → Nat → Hps → Re} {dst : Option Po} {o : DOp} : stepW call K e n h dst o (.ok true) = afterOp K e dst (opC call e n h o) := eqOf rfl
theorem stepW_false {K : Tr → Nat → Hps → Re} {dst : Option Po} {o : DOp} : stepW call K e n h dst o (.ok false) = K (putE e dst (.tup [])) (n + 1) h := eqOf rfl
theorem wantB_bool {w b : Bool} : wantB w (.bool b) = .ok (w == b) := by
  show OB.ok (eqB w b) = _
  rw [eqB_eq]
theorem wantB_tup {w : Bool} : wantB w (.tup []) = .ok false := eqOf rfl
theorem after_ok {K : Tr → Nat → Hps → Re} {dst : Option Po} {d : D} {m : Nat} {g : Hps} : afterOp K e dst (.ok d m g) = K (putE e dst d) (m + 1) g := eqOf rfl
theorem putE_some {p : Po} {d : D} : putE e (some p) d = putT p d e := eqOf rfl
theorem putE_none {d : D} : putE e none d = e := eqOf rfl
theorem ev_s {p : Po} : ev e (.s p) = get p e := eqOf rfl
theorem ev_k {d : D} : ev e (.k d) = d := eqOf rfl
theorem evs_nil : evs e [] = [] := eqOf rfl
theorem get_po {a b : Nat} {d : D} (ha : a < 1048576) (hb : b < 1048576) : get (po a) (putT (po b) d e) = if a = b then d else get (po a) e := by
  by_cases hab : a = b
  · rw [if_pos hab, hab, get_put_same]
  · rw [if_neg hab, get_put_ne _ _ _ _ (fun h => hab (po_inj ha hb h))]

theorem opC_mv {x : Opd} : opC call e n h (.mv x) = .ok (ev e x) n h := eqOf rfl
theorem opC_pick {c a b : Opd} : opC call e n h (.pick c a b) = pickD n h (ev e a) (ev e b) (ev e c) := eqOf rfl
theorem opC_new {k : Nat} {z : D} : opC call e n h (.new k z) = boxD n h k z := eqOf rfl
theorem opC_box {k : Nat} {x : Opd} : opC call e n h (.box k x) = boxD n h k (ev e x) := eqOf rfl
theorem opC_build {zs : List D} {ps : List (Nat × Nat × Opd)} : opC call e n h (.build zs ps) = buildD n h (fillP e ps (some zs)) := eqOf rfl
theorem opC_bsl {k : Nat} {es : List Opd} : opC call e n h (.bsl k es) = bslD n h k (evs e es) := eqOf rfl
theorem opC_load {ag : Bool} {k : Nat} {a : Opd} : opC call e n h (.load ag k a) = loadD ag k n h (ev e a) := eqOf rfl
theorem opC_store {ag : Bool} {k : Nat} {a x : Opd} : opC call e n h (.store ag k a x) = storeD ag k (ev e x) n h (ev e a) := eqOf rfl
theorem opC_bin {op : BinOp} {x y : Opd} : opC call e n h (.bin op x y) = okD n h (binD op (ev e x) (ev e y)) := eqOf rfl
theorem opC_cmp {b : Bool} {t : EK} {x y : Opd} : opC call e n h (.cmp b t x y) = obR n h b (eqD t (ev e x) (ev e y)) := eqOf rfl
theorem opC_not {x : Opd} : opC call e n h (.not x) = notD n h (ev e x) := eqOf rfl
theorem opC_neg {x : Opd} : opC call e n h (.neg x) = negD n h (ev e x) := eqOf rfl
theorem opC_faddr {off : Nat} {x : Opd} : opC call e n h (.faddr off x) = faddrD n h off (ev e x) := eqOf rfl
theorem opC_fld {ag : Bool} {off k : Nat} {x : Opd} : opC call e n h (.fld ag off k x) = fldD n h ag off k (ev e x) := eqOf rfl
theorem opC_iaddr {k : Nat} {x i : Opd} : opC call e n h (.iaddr k x i) = natR (iaddrD n h k (ev e x)) (ev e i) := eqOf rfl
theorem opC_sidx {x i : Opd} : opC call e n h (.sidx x i) = natR (sidxD n h (ev e x)) (ev e i) := eqOf rfl
theorem opC_aidx {ag : Bool} {k m : Nat} {x i : Opd} : opC call e n h (.aidx ag k m x i) = natR (aidxD n h ag k m (ev e x)) (ev e i) := eqOf rfl
theorem opC_slice {k : Nat} {x : Opd} {lo hi mx : Option Opd} : opC call e n h (.slice k x lo hi mx) = sliceD n h k e (ev e x) lo hi mx := eqOf rfl
theorem opC_sslice {x : Opd} {lo hi : Option Opd} : opC call e n h (.sslice x lo hi) = ssliceD n h e (ev e x) lo hi := eqOf rfl
theorem opC_ext {x : Opd} {i : Nat} : opC call e n h (.ext x i) = extD n h i (ev e x) := eqOf rfl
theorem opC_mkfn {f : Nat} {a c : List Opd} : opC call e n h (.mkfn f a c) = .ok (.fn f (evs e a) (evs e c)) n h := eqOf rfl
theorem opC_mksl {k b : Nat} {z : D} {x : Opd} : opC call e n h (.mksl k b z x) = natR (mkslD n h k b z) (ev e x) := eqOf rfl
theorem opC_nilck {x : Opd} : opC call e n h (.nilck x) = nilckD n h (ev e x) := eqOf rfl
theorem opC_mkmap : opC call e n h .mkmap = .ok (.mp n) n ((n, .map []) :: h) := eqOf rfl
theorem opC_look {t : EK} {z : D} {ok : Bool} {m i : Opd} : opC call e n h (.look t z ok m i) = lookD n h t z ok (ev e i) (ev e m) := eqOf rfl
theorem opC_cvi {k : IntKind} {x : Opd} : opC call e n h (.cvi k x) = cviD n h k (ev e x) := eqOf rfl
theorem opC_paddr {k m : Nat} {x i : Opd} : opC call e n h (.paddr k m x i) = natR (paddrD n h k m (ev e x)) (ev e i) := eqOf rfl
theorem opC_mdel {t : EK} {m k : Opd} : opC call e n h (.mdel t m k) = mdelD n h t (ev e k) (ev e m) := eqOf rfl
theorem opC_mupd {t : EK} {m k x : Opd} : opC call e n h (.mupd t m k x) = mupdD n h t (ev e k) (ev e x) (ev e m) := eqOf rfl
theorem opC_len {t : EK} {x : Opd} : opC call e n h (.len t x) = lenD n h t (ev e x) := eqOf rfl
theorem opC_app {k b : Nat} {s x : Opd} : opC call e n h (.app k b s x) = appD n h k b (ev e s) (view k h (ev e x)) := eqOf rfl
theorem opC_max {x y : Opd} : opC call e n h (.max x y) = maxD n h (ev e x) (ev e y) := eqOf rfl
theorem opC_min {x y : Opd} : opC call e n h (.min x y) = minD n h (ev e x) (ev e y) := eqOf rfl
theorem opC_call {f : Opd} {args : List Opd} : opC call e n h (.call f args) = callC call n h (ev e f) (evs e args) := eqOf rfl
theorem callC_cons {f : D} {x : D} {args : List D} : callC call n h f (x :: args) = call (n + 1) h f (x :: args) := by cases f <;> rfl
theorem callC_fn0 {g : Nat} : callC call n h (.fn g [] []) [] = pureC [] n h (.fn g [] []) [] (call (n + 1) [] (.fn g [] []) []) := eqOf rfl
theorem callC_fn1 {g : Nat} {x : D} {a c : List D} : callC call n h (.fn g (x :: a) c) [] = call (n + 1) h (.fn g (x :: a) c) [] := eqOf rfl
theorem callC_fn2 {g : Nat} {x : D} {c : List D} : callC call n h (.fn g [] (x :: c)) [] = call (n + 1) h (.fn g [] (x :: c)) [] := eqOf rfl
theorem callC_yld {r : Nat} : callC call n h (.yld r) [] = call (n + 1) h (.yld r) [] := eqOf rfl
theorem callX_fn {X : RunF} {g : Nat} {a c args : List D} : callX F X n h (.fn g a c) args = callFn X n h (a ++ (args ++ c)) (F g) := by
  show callFn X n h (appL a (appL args c)) (F g) = _
  rw [appL_eq, appL_eq]

theorem okD_bool {b : Bool} : okD n h (.bool b) = .ok (.bool b) n h := eqOf rfl
theorem okD_int {k : IntKind} {a : Int} : okD n h (.int k a) = .ok (.int k a) n h := eqOf rfl
theorem okD_str {s : List Nat} : okD n h (.str s) = .ok (.str s) n h := eqOf rfl
theorem okD_agg {cs : List D} : okD n h (.agg cs) = .ok (.agg cs) n h := eqOf rfl
theorem okD_sl {k : Nat} {es sp : List D} {f : Bool} : okD n h (.sl k es sp f) = .ok (.sl k es sp f) n h := eqOf rfl
theorem okD_ms {k r o l : Nat} {f : Bool} : okD n h (.ms k r o l f) = .ok (.ms k r o l f) n h := eqOf rfl
theorem okD_nils : okD n h .nils = .ok .nils n h := eqOf rfl
theorem okD_nilp : okD n h .nilp = .ok .nilp n h := eqOf rfl
theorem okD_nilf : okD n h .nilf = .ok .nilf n h := eqOf rfl
theorem okD_nilm : okD n h .nilm = .ok .nilm n h := eqOf rfl
theorem okD_ptr {r i j : Nat} : okD n h (.ptr r i j) = .ok (.ptr r i j) n h := eqOf rfl
theorem okD_ip {d : D} {j : Nat} : okD n h (.ip d j) = .ok (.ip d j) n h := eqOf rfl
theorem okD_mp {r : Nat} : okD n h (.mp r) = .ok (.mp r) n h := eqOf rfl
theorem okD_fn {f : Nat} {a c : List D} : okD n h (.fn f a c) = .ok (.fn f a c) n h := eqOf rfl
theorem okD_ne {d : D} (hd : d ≠ .junk) : okD n h d = .ok d n h := by cases d <;> first | rfl | exact absurd rfl hd
theorem ifR_true {r : Rd} : ifR true r = r := eqOf rfl
theorem ifR_dec {p : Prop} [Decidable p] {r : Rd} (hp : p) : ifR (decide p) r = r := by rw [decide_eq_true hp]; rfl

/-! numbers -/
theorem wrap64_in {a : Int} (h1 : -9223372036854775808 ≤ a) (h2 : a ≤ 9223372036854775807) : IntKind.i64.wrap a = a := IntWalk.i64_in _ ⟨h1, h2⟩
theorem wr_in {a : Int} (h1 : -9223372036854775808 ≤ a) (h2 : a ≤ 9223372036854775807) : wr .i64 a = a := by
  have := wrap64_in h1 h2
  show wr64 a = a
  unfold wr64
  cases a with
  | ofNat m =>
    show Bool.rec (motive := fun _ => Int) (IntKind.i64.wrap (.ofNat m)) (.ofNat m) (Nat.blt m two62) = _
    cases Nat.blt m two62 with
    | false => exact this
    | true => rfl
  | negSucc m =>
    show Bool.rec (motive := fun _ => Int) (IntKind.i64.wrap (.negSucc m)) (.negSucc m) (Nat.blt m two62) = _
    cases Nat.blt m two62 with
    | false => exact this
    | true => rfl
theorem bin_add {a b : Int} (h1 : -9223372036854775808 ≤ a + b) (h2 : a + b ≤ 9223372036854775807) : binD .add (.int .i64 a) (.int .i64 b) = .int .i64 (a + b) := by
  show D.int .i64 (wr .i64 (a + b)) = _
  rw [wr_in h1 h2]
theorem bin_sub {a b : Int} (h1 : -9223372036854775808 ≤ a - b) (h2 : a - b ≤ 9223372036854775807) : binD .sub (.int .i64 a) (.int .i64 b) = .int .i64 (a - b) := by
  show D.int .i64 (wr .i64 (a - b)) = _
  rw [wr_in h1 h2]
theorem bin_lss {a b : Int} : binD .lss (.int .i64 a) (.int .i64 b) = .bool (decide (a < b)) := by show D.bool (ltI a b) = _; rw [ltI_eq]
theorem bin_leq {a b : Int} : binD .leq (.int .i64 a) (.int .i64 b) = .bool (decide (a ≤ b)) := by
  show D.bool (Bool.not (ltI b a)) = _
  rw [ltI_eq]
  congr 1
  show (!decide (b < a)) = _
  rw [← decide_not]
  exact decide_eq_decide.2 (by omega)
theorem bin_gtr {a b : Int} : binD .gtr (.int .i64 a) (.int .i64 b) = .bool (decide (b < a)) := by show D.bool (ltI b a) = _; rw [ltI_eq]
theorem bin_geq {a b : Int} : binD .geq (.int .i64 a) (.int .i64 b) = .bool (decide (b ≤ a)) := by
  show D.bool (Bool.not (ltI a b)) = _
  rw [ltI_eq]
  congr 1
  show (!decide (a < b)) = _
  rw [← decide_not]
  exact decide_eq_decide.2 (by omega)
theorem bin_eql {a b : Int} : binD .eql (.int .i64 a) (.int .i64 b) = .bool (decide (a = b)) := by show D.bool (eqI a b) = _; rw [eqI_eq]
theorem bin_neq {a b : Int} : binD .neq (.int .i64 a) (.int .i64 b) = .bool (!decide (a = b)) := by show D.bool (Bool.not (eqI a b)) = _; rw [eqI_eq]
theorem natR_of {f : Nat → Rd} {k : IntKind} {a : Nat} : natR f (.int k (a : Int)) = f a := eqOf rfl
theorem natR_lit {f : Nat → Rd} {k : IntKind} {a : Nat} : natR f (.int k (.ofNat a)) = f a := eqOf rfl

/-! slices that are data -/
/-- a slice that is data, with these elements -/
def isSl (k : Nat) (es : List D) (d : D) : Prop := (d = .nils ∧ es = []) ∨ ∃ sp f, d = .sl k es sp f
theorem len_isSl {k : Nat} {es : List D} {d : D} (hd : isSl k es d) : lenD n h .slice d = .ok (.int .i64 (es.length : Nat)) n h := by
  rcases hd with ⟨rfl, rfl⟩ | ⟨sp, f, rfl⟩
  · rfl
  · show lenI n h (lenL es) = _
    rw [lenL_eq]; rfl
theorem iaddr_isSl {k : Nat} {es : List D} {d : D} {i : Nat} (hd : isSl k es d) (hi : i < es.length) : iaddrD n h k d i = .ok (.ip (es.getD i .junk) 0) n h := by
  rcases hd with ⟨rfl, rfl⟩ | ⟨sp, f, rfl⟩
  · exact absurd hi (Nat.not_lt_zero _)
  · show ifR (Bool.and (Nat.blt i (lenL es)) (Nat.beq k k)) (.ok (.ip (nth es i) 0) n h) = _
    rw [lenL_eq, blt_iff, decide_eq_true hi, Nat.beq_refl, nth_eq]
    rfl
theorem okD_isSl {k : Nat} {es : List D} {d : D} (hd : isSl k es d) : okD n h d = .ok d n h := by
  rcases hd with ⟨rfl, rfl⟩ | ⟨sp, f, rfl⟩ <;> rfl
theorem loadD_ip {ag : Bool} {k j : Nat} {x : D} : loadD ag k n h (.ip x j) = okD n h (sub ag k j x) := eqOf rfl
theorem faddr_ip {off j : Nat} {x : D} : faddrD n h off (.ip x j) = .ok (.ip x (j + off)) n h := eqOf rfl
theorem faddr_ptr {off r i j : Nat} : faddrD n h off (.ptr r i j) = .ok (.ptr r i (j + off)) n h := eqOf rfl
theorem sub_cell {k j : Nat} {cs : List D} : sub false k j (.agg cs) = cs.getD j .junk := by
  show nth cs j = _
  exact nth_eq _ _
theorem pick_true {a b : D} : pickD n h a b (.bool true) = .ok a n h := eqOf rfl
theorem pick_false {a b : D} : pickD n h a b (.bool false) = .ok b n h := eqOf rfl

/-! a call's end -/
theorem callFn_eq {X : RunF} {args : List D} {b : DCode} {ps : List Po} {rv : List RV} (hl : args.length = ps.length) : callFn X n h args ⟨b, ps, rv, false⟩ = finish n rv (X b (argsT args ps) n h) := by
  show ifR (Nat.beq (lenL args) (lenP ps)) (finish n rv (X b (argsT args ps) n h)) = _
  rw [lenL_eq, lenP_eq, hl, Nat.beq_refl]
  rfl
theorem callFn_eqK {X : RunF} {args : List D} {b : DCode} {ps : List Po} {rv : List RV} (hl : args.length = ps.length) : callFn X n h args ⟨b, ps, rv, true⟩ = finK rv (X b (argsT args ps) n h) := by
  show ifR (Nat.beq (lenL args) (lenP ps)) (finK rv (X b (argsT args ps) n h)) = _
  rw [lenL_eq, lenP_eq, hl, Nat.beq_refl]
  rfl
theorem finK_ret {rv : List RV} : finK rv (.ok .ret e n h) = finKL n h (resL h e rv) := eqOf rfl
theorem finK_normal {rv : List RV} : finK rv (.ok .normal e n h) = finKL n h (resL h e rv) := eqOf rfl
theorem finKL_ok {l : List D} : finKL n h (.ok l) = .ok (tupD l) n h := eqOf rfl
theorem argsT_cons {d : D} {ds : List D} {p : Po} {ps : List Po} : argsT (d :: ds) (p :: ps) = putT p d (argsT ds ps) := eqOf rfl
theorem argsT_nil {ps : List Po} : argsT [] ps = .lf := eqOf rfl
theorem finish_ret {n0 : Nat} {rv : List RV} : finish n0 rv (.ok .ret e n h) = finishL n0 n h (resL h e rv) := eqOf rfl
theorem finish_normal {n0 : Nat} {rv : List RV} : finish n0 rv (.ok .normal e n h) = finishL n0 n h (resL h e rv) := eqOf rfl
theorem resL_nil : resL h e [] = .ok [] := eqOf rfl
theorem resL_tmp {p : Po} {l : List RV} : resL h e (.tmp p :: l) = resC (.ok (get p e) 0 []) (resL h e l) := eqOf rfl
theorem resL_cell {p : Po} {ag : Bool} {k : Nat} {l : List RV} : resL h e (.cell p ag k :: l) = resC (loadD ag k 0 h (get p e)) (resL h e l) := eqOf rfl
theorem resC_ok {d : D} {m : Nat} {g : Hps} {l : List D} : resC (.ok d m g) (.ok l) = .ok (d :: l) := eqOf rfl
theorem finishL_ok {n0 : Nat} {l : List D} : finishL n0 n h (.ok l) = finishD n0 n h (tupD l) := eqOf rfl

/-- nothing that is kept is numbered n or more -/
def Fresh (n : Nat) (h : Hps) : Prop := ∀ p, p ∈ h → p.1 < n
/-- what lies below number n0 is data alone: nothing of it leads beyond -/
theorem dropFrom_eq {n0 : Nat} {h : Hps} (hf : Fresh n0 h) : dropFrom n0 h = h := by
  induction h with
  | nil => rfl
  | cons p t ih =>
    show Bool.rec (motive := fun _ => Hps) (dropFrom n0 t) (p :: dropFrom n0 t) (Nat.blt p.1 n0) = _
    rw [blt_iff, decide_eq_true (hf p (by simp)), ih (fun q hq => hf q (by simp [hq]))]
end
end Go.Proofs.Ytdijijblccmfbaa
