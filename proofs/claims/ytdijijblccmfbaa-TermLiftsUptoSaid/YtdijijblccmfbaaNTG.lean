/- The reference's check of a term. No condition but lengths. -/
import Derived.Test.YtdijijblccmfbaaNTA
import Derived.Test.YtdijijblccmfbaaNLC
import Derived.Test.YtdijijblccmfbaaNLF
import Derived.Test.YtdijijblccmfbaaNTT

/- Levels within terms: which are right and canonical; small functions on forms. No condition but lengths. -/
set_option linter.unusedSimpArgs false
set_option linter.unusedVariables false
namespace Go.Proofs.Ytdijijblccmfbaa
open Go
open Nat (reduceAdd reduceLT reduceLeDiff reduceEqDiff reduceMul)

def Gd (m:Nat) (h:Hps):Prop:=∀ k,m≤k→GoodAt k h
theorem gd_nil {m:Nat}:Gd m []=True:=eqOf (propext ⟨fun _=>trivial,fun _ _ _=>good_nil⟩)
theorem gd_flat {m r k:Nat} {d:D} {t:Hps} (hd:flat d=true) (h:r < m):Gd m ((r,.row k [d])::t)=Gd m t:=propext ⟨fun H k hk => (good_cons.1 (H k hk)).2.2,fun H k hk=>good_cons.2 ⟨by omega,lowO_one (low_flat hd),H k hk⟩⟩
theorem gd_lev {m r k:Nat} {N:Int} {s:Sl LV} {t:Hps} (h:r < m):Gd m ((r,.row k [(D.agg [.int .i64 (N),slD 2 encV (s)])])::t)=Gd m t:=gd_flat (flatL ⟨N,s⟩) h
theorem gd_zero {m r k:Nat} {t:Hps} (h:r < m):Gd m ((r,.row k [.agg [.int .i64 0,.nils]])::t)=Gd m t:=gd_flat rfl h
theorem flatT (t:Tm):flat (encT t)=true:=by rw [encT_eq,flat_agg]; have hb:flat1 (.bool t.hid)=true:=rfl; simp [flat1_slD,flat1_int,flat1_str,hb]
theorem flatTA (t:Tm):flat (D.agg [.int .i64 (t).form,.int .i64 (t).n,.bool (t).hid,.str (t).name,slD 2 encL (t).levels,slD 6 encT (t).kids])=true:=by rw [← encT_eq]; exact flatT t
theorem gd_tm {m r k:Nat} {t:Tm} {g:Hps} (h:r < m):Gd m ((r,.row k [(D.agg [.int .i64 (t).form,.int .i64 (t).n,.bool (t).hid,.str (t).name,slD 2 encL (t).levels,slD 6 encT (t).kids])])::g)=Gd m g:=gd_flat (flatTA t) h
theorem gd_zt {m r k:Nat} {g:Hps} (h:r < m):Gd m ((r,.row k [(D.agg [.int .i64 0,.int .i64 0,.bool false,.str [],.nils,.nils])])::g)=Gd m g:=gd_flat rfl h
theorem keys_gd {m:Nat} {h:Hps} (hg:Gd m h):keysFrom m h=[]:=keys_low (hg m (Nat.le_refl _))
theorem Gd.mono {m k:Nat} {h:Hps} (H:Gd m h) (hk:m≤k):Gd k h:=fun j hj=>H j (Nat.le_trans hk hj)

theorem str_eql {a b:List Nat}:binD .eql (.str a) (.str b) = .bool (decide (a=b)):=by
  show D.bool (eqN a b)=_
  rw [eqN_eq]
  by_cases h:a=b
  · rw [decide_eq_true h,h,beq_self_eq_true]
  · rw [decide_eq_false h,beq_eq_false_iff_ne.2 h]
theorem len_str {n:Nat} {h:Hps} {a:List Nat}:lenD n h .str (.str a) = .ok (.int .i64 (a.length:Nat)) n h:=by
  show Rd.ok (.int .i64 (.ofNat (lenN a))) n h=_
  rw [lenN_eq]; rfl
theorem str_neq {a b:List Nat}:binD .neq (.str a) (.str b) = .bool (!decide (a=b)):=by
  show D.bool (Bool.not (eqN a b))=_
  rw [eqN_eq]
  by_cases h:a=b
  · rw [decide_eq_true h,h,beq_self_eq_true]
  · rw [decide_eq_false h,beq_eq_false_iff_ne.2 h]
def Sl.tight {α:Type} (s:Sl α):Sl α:=⟨s.nil && s.el.isEmpty && s.sp.isEmpty,true,s.el,[]⟩
noncomputable def slc3 (n:Nat) (h:Hps) (k:Nat) (x u m:D):Rd:=match x with
  | .sl k' es sp _=>ifR (Nat.beq k k') (natR (fun u=>natR (fun m=>slL3 n h k es sp 0 u m) m) u)
  | .ms k' r off len _=>ifR (Nat.beq k k') (natR (fun u=>natR (fun m=>slM3 n h k r off len 0 u m) m) u)
  | .nils=>natR (fun u=>natR (fun m=>slN3 n h 0 u m) m) u
  | _ => .bad
theorem slice3_eq {n k:Nat} {h:Hps} {env:Tr} {x:D} {u m:Opd}:sliceD n h k env x none (some u) (some m)=slc3 n h k x (ev env u) (ev env m):=by cases x <;> rfl
theorem slc3_slD {α:Type} {enc:α→D} {n k:Nat} {h:Hps} {s:Sl α} {p q:IntKind}:slc3 n h k (slD k enc s) (.int p (s.el.length:Nat)) (.int q (s.el.length:Nat)) = .ok (slD k enc s.tight) n h:=by
  unfold slD
  cases hs : (s.nil && s.el.isEmpty && s.sp.isEmpty) with
  | true =>
    have h2:=hs
    simp only [Bool.and_eq_true,List.isEmpty_iff] at h2
    rw [h2.1.2]
    have : (s.tight.nil && s.tight.el.isEmpty && s.tight.sp.isEmpty)=true:=by
      show ((s.nil && s.el.isEmpty && s.sp.isEmpty) && s.el.isEmpty && true)=true
      rw [hs,h2.1.2]; rfl
    rw [this]
    rfl
  | false =>
    have : (s.tight.nil && s.tight.el.isEmpty && s.tight.sp.isEmpty)=false:=by
      show ((s.nil && s.el.isEmpty && s.sp.isEmpty) && s.el.isEmpty && true)=false
      rw [hs]; rfl
    rw [this]
    show ifR (Nat.beq k k) (slL3 n h k (s.el.map enc) (s.sp.map enc) 0 s.el.length s.el.length) = .ok (.sl k (s.el.map enc) [] true) n h
    rw [Nat.beq_refl,ifR_true]
    show ifR (Bool.and (Nat.ble 0 s.el.length) (Bool.and (Nat.ble s.el.length s.el.length) (Nat.ble s.el.length (lenL (s.el.map enc)+lenL (s.sp.map enc))))) (.ok (.sl k (takeL (s.el.length - 0) (dropL 0 (appL (s.el.map enc) (s.sp.map enc)))) (dropL s.el.length (takeL s.el.length (appL (s.el.map enc) (s.sp.map enc)))) (Nat.beq s.el.length s.el.length)) n h)=_
    rw [lenL_eq,lenL_eq,List.length_map,List.length_map,ble_iff,ble_iff,ble_iff,decide_eq_true (Nat.zero_le _),decide_eq_true (Nat.le_refl _),decide_eq_true (Nat.le_add_right _ _),Nat.beq_refl,appL_eq,takeL_eq,takeL_eq,dropL_eq,dropL_eq,List.drop_zero,Nat.sub_zero]
    have e1 : ((s.el.map enc) ++ (s.sp.map enc)).take s.el.length=s.el.map enc:=by
      have:=List.take_left (l₁:=s.el.map enc) (l₂:=s.sp.map enc)
      rwa [List.length_map] at this
    rw [e1,List.drop_of_length_le (by rw [List.length_map]; exact Nat.le_refl _)]
    rfl
theorem tight_el {α:Type} {s:Sl α}:s.tight.el=s.el:=rfl

theorem pKids (n:Nat) (h:Hps) (hg:Gd n h) (f:Int):callFn (LX (cFk kL Try.prog)) n h [.int .i64 f] (cFk kL Try.prog 96) = .ok (.int .i64 (kidsN f)) n h:=by
  have hgn:=hg n (Nat.le_refl _)
  rw [f96_eq]; unfold c96; rw [callFn_eq (by rfl)]
  by_cases h1:f=1
  · subst h1; rw [show kidsN 1=0 from rfl]; simp (disch:=first|assumption|omega|(simp (disch:=first|assumption|omega) only [sB,reduceAdd,reduceLT,reduceLeDiff,reduceEqDiff,reduceMul,↓reduceIte];done)|fail) only [sA,↓reduceIte,reduceLT,reduceEqDiff,reduceAdd,reduceLeDiff]
  by_cases h2:f=2
  · subst h2; rw [show kidsN 2=0 from rfl]; simp (disch:=first|assumption|omega|(simp (disch:=first|assumption|omega) only [sB,reduceAdd,reduceLT,reduceLeDiff,reduceEqDiff,reduceMul,↓reduceIte];done)|fail) only [sA,↓reduceIte,reduceLT,reduceEqDiff,reduceAdd,reduceLeDiff]
  by_cases h10:f=10
  · subst h10; rw [show kidsN 10=0 from rfl]; simp (disch:=first|assumption|omega|(simp (disch:=first|assumption|omega) only [sB,reduceAdd,reduceLT,reduceLeDiff,reduceEqDiff,reduceMul,↓reduceIte];done)|fail) only [sA,↓reduceIte,reduceLT,reduceEqDiff,reduceAdd,reduceLeDiff]
  by_cases h11:f=11
  · subst h11; rw [show kidsN 11=0 from rfl]; simp (disch:=first|assumption|omega|(simp (disch:=first|assumption|omega) only [sB,reduceAdd,reduceLT,reduceLeDiff,reduceEqDiff,reduceMul,↓reduceIte];done)|fail) only [sA,↓reduceIte,reduceLT,reduceEqDiff,reduceAdd,reduceLeDiff]
  by_cases h8:f=8
  · subst h8; rw [show kidsN 8=1 from rfl]; simp (disch:=first|assumption|omega|(simp (disch:=first|assumption|omega) only [sB,reduceAdd,reduceLT,reduceLeDiff,reduceEqDiff,reduceMul,↓reduceIte];done)|fail) only [sA,↓reduceIte,reduceLT,reduceEqDiff,reduceAdd,reduceLeDiff]
  by_cases h9:f=9
  · subst h9; rw [show kidsN 9=1 from rfl]; simp (disch:=first|assumption|omega|(simp (disch:=first|assumption|omega) only [sB,reduceAdd,reduceLT,reduceLeDiff,reduceEqDiff,reduceMul,↓reduceIte];done)|fail) only [sA,↓reduceIte,reduceLT,reduceEqDiff,reduceAdd,reduceLeDiff]
  by_cases h7:f=7
  · subst h7; rw [show kidsN 7=3 from rfl]; simp (disch:=first|assumption|omega|(simp (disch:=first|assumption|omega) only [sB,reduceAdd,reduceLT,reduceLeDiff,reduceEqDiff,reduceMul,↓reduceIte];done)|fail) only [sA,↓reduceIte,reduceLT,reduceEqDiff,reduceAdd,reduceLeDiff]
  by_cases h3:f=3
  · subst h3; rw [show kidsN 3=2 from rfl]; simp (disch:=first|assumption|omega|(simp (disch:=first|assumption|omega) only [sB,reduceAdd,reduceLT,reduceLeDiff,reduceEqDiff,reduceMul,↓reduceIte];done)|fail) only [sA,↓reduceIte,reduceLT,reduceEqDiff,reduceAdd,reduceLeDiff]
  by_cases h4:f=4
  · subst h4; rw [show kidsN 4=2 from rfl]; simp (disch:=first|assumption|omega|(simp (disch:=first|assumption|omega) only [sB,reduceAdd,reduceLT,reduceLeDiff,reduceEqDiff,reduceMul,↓reduceIte];done)|fail) only [sA,↓reduceIte,reduceLT,reduceEqDiff,reduceAdd,reduceLeDiff]
  by_cases h5:f=5
  · subst h5; rw [show kidsN 5=2 from rfl]; simp (disch:=first|assumption|omega|(simp (disch:=first|assumption|omega) only [sB,reduceAdd,reduceLT,reduceLeDiff,reduceEqDiff,reduceMul,↓reduceIte];done)|fail) only [sA,↓reduceIte,reduceLT,reduceEqDiff,reduceAdd,reduceLeDiff]
  by_cases h6:f=6
  · subst h6; rw [show kidsN 6=2 from rfl]; simp (disch:=first|assumption|omega|(simp (disch:=first|assumption|omega) only [sB,reduceAdd,reduceLT,reduceLeDiff,reduceEqDiff,reduceMul,↓reduceIte];done)|fail) only [sA,↓reduceIte,reduceLT,reduceEqDiff,reduceAdd,reduceLeDiff]
  have e:kidsN f = -1:=by unfold kidsN; rw [if_neg (by omega),if_neg (by omega),if_neg (by omega),if_neg (by omega)]
  rw [e]
  simp (disch:=first|assumption|omega|(simp (disch:=first|assumption|omega) only [sB,reduceAdd,reduceLT,reduceLeDiff,reduceEqDiff,reduceMul,↓reduceIte];done)|fail) only [sA,↓reduceIte,reduceLT,reduceEqDiff,reduceAdd,reduceLeDiff,h1,h2,h3,h4,h5,h6,h7,h8,h9,h10,h11]

theorem pCanon (n:Nat) (h:Hps) (hg:Gd n h) (N:Int) (s:Sl LV):callFn (LX (cFk kL Try.prog)) n h [(D.agg [.int .i64 (N),slD 2 encV (s)])] (cFk kL Try.prog 121) = .ok (.bool (Lev.canon ⟨N,s.el⟩)) n h:=by
  have hgn:=hg n (Nat.le_refl _)
  have hG:∀ m,n≤m→Gd m h:=fun m hm=>Gd.mono hg hm
  have c1:∀ m h,Gd m h→callFn (LX (cFk kL Try.prog)) m h [(D.agg [.int .i64 (N),slD 2 encV (s)])] (cFk kL Try.prog 126) = .ok (D.tup [.agg [.int .i64 (Lev.nrm ⟨N,s.el⟩).1.n,slD 2 encV (Sl.app (Lev.nrm ⟨N,s.el⟩).1.v)],.int .i64 (Lev.nrm ⟨N,s.el⟩).2]) m h:=fun m h hg=>lvNormA m h hg N _ _ _ (svV s)
  unfold Lev.canon
  by_cases hr:Lev.right ⟨N,s.el⟩=true
  · simp only [nrm_right hr] at c1
    have h64:s.el.length≤64 := (right_iff.1 hr).2.1
    have hn64 : (Lev.norm ⟨N,s.el⟩).v.length≤s.el.length:=norm_len ⟨N,s.el⟩
    rw [hr,Bool.true_and]
    generalize Lev.norm ⟨N,s.el⟩=M at c1 hn64 ⊢
    obtain ⟨Mn,Mv⟩:=M
    replace hn64:Mv.length≤s.el.length:=hn64
    have c2:∀ m h,Gd m h→callFn (LX (cFk kL Try.prog)) m h [slD 2 encV (Sl.app Mv),slD 2 encV s] (cFk kL Try.prog 124) = .ok (.bool (decide (Mv=s.el))) m h:=fun m h hg=>slEqual m h hg (Sl.app Mv) s (by show Mv.length < _; omega) (by omega)
    show _=Rd.ok (.bool (decide (Mn=N) && decide (Mv=s.el))) n h
    generalize decide (Mv=s.el)=b at c2 ⊢
    rw [f121_eq]; unfold c121; rw [callFn_eq (by rfl)]
    by_cases z1:Mn=N
    · subst z1
      rw [decide_eq_true rfl,Bool.true_and]
      simp (disch:=first|assumption|omega|(simp (disch:=first|assumption|omega) only [sB,reduceAdd,reduceLT,reduceLeDiff,reduceEqDiff,reduceMul,↓reduceIte,hG,gd_lev,gd_zero];done)|fail) only [sA,↓reduceIte,reduceLT,reduceEqDiff,reduceAdd,reduceLeDiff,c1,c2,hG,gd_lev,gd_zero]
    · rw [decide_eq_false z1,Bool.false_and]
      simp (disch:=first|assumption|omega|(simp (disch:=first|assumption|omega) only [sB,reduceAdd,reduceLT,reduceLeDiff,reduceEqDiff,reduceMul,↓reduceIte,hG,gd_lev,gd_zero];done)|fail) only [sA,↓reduceIte,reduceLT,reduceEqDiff,reduceAdd,reduceLeDiff,c1,z1,hG,gd_lev,gd_zero]
  · simp only [nrm_wrong hr] at c1
    rw [show Lev.right ⟨N,s.el⟩=false by cases hx:Lev.right ⟨N,s.el⟩ <;> simp_all,Bool.false_and]
    rw [f121_eq]; unfold c121; rw [callFn_eq (by rfl)]
    simp (disch:=first|assumption|omega|(simp (disch:=first|assumption|omega) only [sB,reduceAdd,reduceLT,reduceLeDiff,reduceEqDiff,reduceMul,↓reduceIte,hG,gd_lev,gd_zero];done)|fail) only [sA,↓reduceIte,reduceLT,reduceEqDiff,reduceAdd,reduceLeDiff,c1,slD_nil,hG,gd_lev,gd_zero]
end Go.Proofs.Ytdijijblccmfbaa

/- The reference's check of a term. No condition. -/
namespace Go.Proofs.Ytdijijblccmfbaa
open Go
open Nat (reduceAdd reduceLT reduceLeDiff reduceEqDiff reduceMul)

theorem rKids (n:Nat) (h:Hps) (hg:Gd n h) (f:Int):callFn (LX (cFk kL Try.prog)) n h [.int .i64 f] (cFk kL Try.prog 99) = .ok (.int .i64 (kidsN f)) n h:=by
  have hgn:=hg n (Nat.le_refl _)
  rw [f99_eq]; unfold c99; rw [callFn_eq (by rfl)]
  by_cases h1:f=1
  · subst h1; rw [show kidsN 1=0 from rfl]; simp (disch:=first|assumption|omega|(simp (disch:=first|assumption|omega) only [sB,reduceAdd,reduceLT,reduceLeDiff,reduceEqDiff,reduceMul,↓reduceIte];done)|fail) only [sA,↓reduceIte,reduceLT,reduceEqDiff,reduceAdd,reduceLeDiff]
  by_cases h2:f=2
  · subst h2; rw [show kidsN 2=0 from rfl]; simp (disch:=first|assumption|omega|(simp (disch:=first|assumption|omega) only [sB,reduceAdd,reduceLT,reduceLeDiff,reduceEqDiff,reduceMul,↓reduceIte];done)|fail) only [sA,↓reduceIte,reduceLT,reduceEqDiff,reduceAdd,reduceLeDiff]
  by_cases h10:f=10
  · subst h10; rw [show kidsN 10=0 from rfl]; simp (disch:=first|assumption|omega|(simp (disch:=first|assumption|omega) only [sB,reduceAdd,reduceLT,reduceLeDiff,reduceEqDiff,reduceMul,↓reduceIte];done)|fail) only [sA,↓reduceIte,reduceLT,reduceEqDiff,reduceAdd,reduceLeDiff]
  by_cases h11:f=11
  · subst h11; rw [show kidsN 11=0 from rfl]; simp (disch:=first|assumption|omega|(simp (disch:=first|assumption|omega) only [sB,reduceAdd,reduceLT,reduceLeDiff,reduceEqDiff,reduceMul,↓reduceIte];done)|fail) only [sA,↓reduceIte,reduceLT,reduceEqDiff,reduceAdd,reduceLeDiff]
  by_cases h8:f=8
  · subst h8; rw [show kidsN 8=1 from rfl]; simp (disch:=first|assumption|omega|(simp (disch:=first|assumption|omega) only [sB,reduceAdd,reduceLT,reduceLeDiff,reduceEqDiff,reduceMul,↓reduceIte];done)|fail) only [sA,↓reduceIte,reduceLT,reduceEqDiff,reduceAdd,reduceLeDiff]
  by_cases h9:f=9
  · subst h9; rw [show kidsN 9=1 from rfl]; simp (disch:=first|assumption|omega|(simp (disch:=first|assumption|omega) only [sB,reduceAdd,reduceLT,reduceLeDiff,reduceEqDiff,reduceMul,↓reduceIte];done)|fail) only [sA,↓reduceIte,reduceLT,reduceEqDiff,reduceAdd,reduceLeDiff]
  by_cases h7:f=7
  · subst h7; rw [show kidsN 7=3 from rfl]; simp (disch:=first|assumption|omega|(simp (disch:=first|assumption|omega) only [sB,reduceAdd,reduceLT,reduceLeDiff,reduceEqDiff,reduceMul,↓reduceIte];done)|fail) only [sA,↓reduceIte,reduceLT,reduceEqDiff,reduceAdd,reduceLeDiff]
  by_cases h3:f=3
  · subst h3; rw [show kidsN 3=2 from rfl]; simp (disch:=first|assumption|omega|(simp (disch:=first|assumption|omega) only [sB,reduceAdd,reduceLT,reduceLeDiff,reduceEqDiff,reduceMul,↓reduceIte];done)|fail) only [sA,↓reduceIte,reduceLT,reduceEqDiff,reduceAdd,reduceLeDiff]
  by_cases h4:f=4
  · subst h4; rw [show kidsN 4=2 from rfl]; simp (disch:=first|assumption|omega|(simp (disch:=first|assumption|omega) only [sB,reduceAdd,reduceLT,reduceLeDiff,reduceEqDiff,reduceMul,↓reduceIte];done)|fail) only [sA,↓reduceIte,reduceLT,reduceEqDiff,reduceAdd,reduceLeDiff]
  by_cases h5:f=5
  · subst h5; rw [show kidsN 5=2 from rfl]; simp (disch:=first|assumption|omega|(simp (disch:=first|assumption|omega) only [sB,reduceAdd,reduceLT,reduceLeDiff,reduceEqDiff,reduceMul,↓reduceIte];done)|fail) only [sA,↓reduceIte,reduceLT,reduceEqDiff,reduceAdd,reduceLeDiff]
  by_cases h6:f=6
  · subst h6; rw [show kidsN 6=2 from rfl]; simp (disch:=first|assumption|omega|(simp (disch:=first|assumption|omega) only [sB,reduceAdd,reduceLT,reduceLeDiff,reduceEqDiff,reduceMul,↓reduceIte];done)|fail) only [sA,↓reduceIte,reduceLT,reduceEqDiff,reduceAdd,reduceLeDiff]
  have e:kidsN f = -1:=by unfold kidsN; rw [if_neg (by omega),if_neg (by omega),if_neg (by omega),if_neg (by omega)]
  rw [e]
  simp (disch:=first|assumption|omega|(simp (disch:=first|assumption|omega) only [sB,reduceAdd,reduceLT,reduceLeDiff,reduceEqDiff,reduceMul,↓reduceIte];done)|fail) only [sA,↓reduceIte,reduceLT,reduceEqDiff,reduceAdd,reduceLeDiff,h1,h2,h3,h4,h5,h6,h7,h8,h9,h10,h11]

theorem rCanon (n:Nat) (h:Hps) (hg:Gd n h) (N:Int) (s:Sl LV):callFn (LX (cFk kL Try.prog)) n h [(D.agg [.int .i64 (N),slD 2 encV (s)])] (cFk kL Try.prog 100) = .ok (.bool (Lev.canon ⟨N,s.el⟩)) n h:=by
  have hgn:=hg n (Nat.le_refl _)
  have hG:∀ m,n≤m→Gd m h:=fun m hm=>Gd.mono hg hm
  have c1:∀ m h,Gd m h→callFn (LX (cFk kL Try.prog)) m h [(D.agg [.int .i64 (N),slD 2 encV (s)])] (cFk kL Try.prog 122) = .ok (D.tup [.agg [.int .i64 (Lev.nrm ⟨N,s.el⟩).1.n,slD 2 encV (Sl.app (Lev.nrm ⟨N,s.el⟩).1.v)],.int .i64 (Lev.nrm ⟨N,s.el⟩).2]) m h:=fun m h hg=>refNormA m h hg N _ _ _ (svV s)
  unfold Lev.canon
  by_cases hr:Lev.right ⟨N,s.el⟩=true
  · simp only [nrm_right hr] at c1
    have h64:s.el.length≤64 := (right_iff.1 hr).2.1
    rw [hr,Bool.true_and]
    generalize Lev.norm ⟨N,s.el⟩=M at c1 ⊢
    obtain ⟨Mn,Mv⟩:=M
    show _=Rd.ok (.bool (decide (Mn=N) && decide (Mv=s.el))) n h
    by_cases z1:Mn=N
    · subst z1
      rw [decide_eq_true rfl,Bool.true_and]
      by_cases z2:Mv.length=s.el.length
      · have H0:Hp n h (n+9) ((n+8,(Ob.row 2 [.agg [.int .i64 (Mn),slD 2 encV (Sl.app Mv)]])) :: (n,(Ob.row 2 [.agg [.int .i64 (Mn),slD 2 encV (s)]]))::h) := ((Hp.start hg).box (r:=n) (m:=n+1) (Nat.le_refl _) (by omega) (flatL ⟨Mn,s⟩)).box (m:=n+9) (r:=n+8) (by omega) (by omega) (flatL ⟨Mn,Sl.app Mv⟩)
        have A:=svA (n:=n) (h:=h) Mv
        have A':=svV (n:=n) (h:=h) s
        have s1:=A.len
        have s2:=A.idx
        have s3:=A.okD
        have t1:=A'.len
        have t2:=A'.idx
        have t3:=A'.okD
        rw [f100_eq]; unfold c100; rw [callFn_eq (by rfl)]
        have z3 : ((Mv.length:Nat):Int) = ((s.el.length:Nat):Int):=by rw [z2]
        simp (disch:=first|assumption|omega|(simp (disch:=first|assumption|omega) only [sB,reduceAdd,reduceLT,reduceLeDiff,reduceEqDiff,reduceMul,↓reduceIte,hG,gd_lev,gd_zero];done)|fail) only [sA,↓reduceIte,reduceLT,reduceEqDiff,reduceAdd,reduceLeDiff,c1,app_el,z3,hG,gd_lev,gd_zero]
        generalize hr:LX (cFk kL Try.prog) (.loop l100_0) _ _ _=r
        obtain ⟨x,e2,n2,h2,rfl,H2,q⟩:=loop_up hr Mv.length
          (fun i e n' h'=>Hp n h n' h'∧n+1≤n'∧Mv.take i=s.el.take i∧getO h' n = (Ob.row 2 [.agg [.int .i64 (Mn),slD 2 encV (s)]]) ∧ (∃ q,n+1≤q∧q < n'∧getO h' q = (Ob.row 2 [.agg [.int .i64 (Mn),slD 2 encV (Sl.app Mv)]])∧get (po 3) e = .ptr q 0 0)∧get (po 1) e = .ptr n 0 0∧get (po 5) e = .int .i64 (i:Nat))
          (fun x e n' h'=>Hp n h n' h' ∧ ((x = .exit 0∧Mv=s.el) ∨ (x = .ret∧Mv≠s.el∧get (po 2) e = .bool false)))
          (by
            rintro e n' h' ⟨H,p1,ht,b1,⟨q,q1,q2,b3,g3⟩,g1,g5⟩
            rw [List.take_length,z2,List.take_length] at ht
            unfold l100_0
            simp (disch:=first|assumption|omega|(simp (disch:=first|assumption|omega) only [sB,reduceAdd,reduceLT,reduceLeDiff,reduceEqDiff,reduceMul,↓reduceIte];done)|fail) only [sA,↓reduceIte,reduceLT,reduceEqDiff,reduceAdd,reduceLeDiff,g1,g3,g5,b1,b3,s1,s3]
            exact ⟨_,_,_,_,rfl,by simp,H.mono (by omega),.inl ⟨rfl,ht⟩⟩)
          (by
            rintro i e n' h' hi ⟨H,p1,ht,b1,⟨q,q1,q2,b3,g3⟩,g1,g5⟩
            have hi':i < s.el.length:=by omega
            have s4:=A.at H
            have t4:=A'.at H
            unfold l100_0
            by_cases a1:Mv[i]=s.el[i]
            · have a2:decide (Mv[i]=s.el[i])=true:=decide_eq_true a1
              simp (disch:=first|assumption|omega|(simp (disch:=first|assumption|omega) only [sB,reduceAdd,reduceLT,reduceLeDiff,reduceEqDiff,reduceMul,↓reduceIte];done)|fail) only [sA,↓reduceIte,reduceLT,reduceEqDiff,reduceAdd,reduceLeDiff,g1,g3,g5,b1,b3,s1,s2,s3,s4,t1,t2,t3,t4,eqV,a2]
              exact ⟨_,_,_,_,rfl,.inl ⟨rfl,H.mono (by omega),by omega,(take_inj hi hi').2 ⟨ht,a1⟩,b1,⟨q,q1,by omega,b3,by simp +decide only [sG,g3]⟩,by simp +decide only [sG,g1],by simp +decide only [sG]⟩⟩
            · have a2:decide (Mv[i]=s.el[i])=false:=decide_eq_false a1
              simp (disch:=first|assumption|omega|(simp (disch:=first|assumption|omega) only [sB,reduceAdd,reduceLT,reduceLeDiff,reduceEqDiff,reduceMul,↓reduceIte];done)|fail) only [sA,↓reduceIte,reduceLT,reduceEqDiff,reduceAdd,reduceLeDiff,g1,g3,g5,b1,b3,s1,s2,s3,s4,t1,t2,t3,t4,eqV,a2]
              exact ⟨_,_,_,_,rfl,.inr ⟨by simp,H.mono (by omega),.inr ⟨rfl,take_ne hi hi' a1,by simp +decide only [sG]⟩⟩⟩)
          ⟨H0.mono (by omega),by omega,by simp,by simp (disch:=first|assumption|omega|(simp (disch:=first|assumption|omega) only [sB,reduceAdd,reduceLT,reduceLeDiff,reduceEqDiff,reduceMul,↓reduceIte];done)|fail) only [sA,↓reduceIte,reduceLT,reduceEqDiff,reduceAdd,reduceLeDiff],⟨n+8,by omega,by omega,by simp (disch:=first|assumption|omega|(simp (disch:=first|assumption|omega) only [sB,reduceAdd,reduceLT,reduceLeDiff,reduceEqDiff,reduceMul,↓reduceIte];done)|fail) only [sA,↓reduceIte,reduceLT,reduceEqDiff,reduceAdd,reduceLeDiff],by simp +decide only [sG]⟩,by simp +decide only [sG],by simp (disch:=first|assumption|omega|(simp (disch:=first|assumption|omega) only [sB,reduceAdd,reduceLT,reduceLeDiff,reduceEqDiff,reduceMul,↓reduceIte];done)|fail) only [sA,↓reduceIte,reduceLT,reduceEqDiff,reduceAdd,reduceLeDiff]⟩
        rcases q with ⟨rfl,q⟩ | ⟨rfl,q,q2⟩
        · rw [decide_eq_true q]
          simp (disch:=first|assumption|omega|(simp (disch:=first|assumption|omega) only [sB,reduceAdd,reduceLT,reduceLeDiff,reduceEqDiff,reduceMul,↓reduceIte];done)|fail) only [sA,↓reduceIte,reduceLT,reduceEqDiff,reduceAdd,reduceLeDiff,finish_flat (d := .bool true) rfl (H2.mono (show n2≤n2+1 by omega))]
        · rw [decide_eq_false q]
          simp (disch:=first|assumption|omega|(simp (disch:=first|assumption|omega) only [sB,reduceAdd,reduceLT,reduceLeDiff,reduceEqDiff,reduceMul,↓reduceIte];done)|fail) only [sA,↓reduceIte,reduceLT,reduceEqDiff,reduceAdd,reduceLeDiff,q2,finish_flat (d := .bool false) rfl H2]
      · rw [decide_eq_false (fun e=>z2 (by rw [e]))]
        have z3:¬ ((Mv.length:Nat):Int) = ((s.el.length:Nat):Int):=by omega
        rw [f100_eq]; unfold c100; rw [callFn_eq (by rfl)]
        simp (disch:=first|assumption|omega|(simp (disch:=first|assumption|omega) only [sB,reduceAdd,reduceLT,reduceLeDiff,reduceEqDiff,reduceMul,↓reduceIte,hG,gd_lev,gd_zero];done)|fail) only [sA,↓reduceIte,reduceLT,reduceEqDiff,reduceAdd,reduceLeDiff,c1,app_el,z3,hG,gd_lev,gd_zero]
    · rw [decide_eq_false z1,Bool.false_and]
      rw [f100_eq]; unfold c100; rw [callFn_eq (by rfl)]
      simp (disch:=first|assumption|omega|(simp (disch:=first|assumption|omega) only [sB,reduceAdd,reduceLT,reduceLeDiff,reduceEqDiff,reduceMul,↓reduceIte,hG,gd_lev,gd_zero];done)|fail) only [sA,↓reduceIte,reduceLT,reduceEqDiff,reduceAdd,reduceLeDiff,c1,z1,hG,gd_lev,gd_zero]
  · simp only [nrm_wrong hr] at c1
    rw [show Lev.right ⟨N,s.el⟩=false by cases hx:Lev.right ⟨N,s.el⟩ <;> simp_all,Bool.false_and]
    rw [f100_eq]; unfold c100; rw [callFn_eq (by rfl)]
    simp (disch:=first|assumption|omega|(simp (disch:=first|assumption|omega) only [sB,reduceAdd,reduceLT,reduceLeDiff,reduceEqDiff,reduceMul,↓reduceIte,hG,gd_lev,gd_zero];done)|fail) only [sA,↓reduceIte,reduceLT,reduceEqDiff,reduceAdd,reduceLeDiff,c1,slD_nil,hG,gd_lev,gd_zero]

def partsV (t:Trm) (left high:Int):Int×Int:=if (sizeT t:Int)≤left ∧ (highT t:Int)≤high then ((sizeT t:Int),(highT t:Int)) else (1073741824,1073741824)
theorem partsV_in {t:Trm} {left high:Int} (h : (sizeT t:Int)≤left ∧ (highT t:Int)≤high):partsV t left high = ((sizeT t:Int),(highT t:Int)):=if_pos h
theorem partsV_out {t:Trm} {left high:Int} (h:¬ ((sizeT t:Int)≤left ∧ (highT t:Int)≤high)):partsV t left high = (1073741824,1073741824):=if_neg h
theorem take_abs {l:List Tm} {i:Nat} (hi:i < l.length) : (l.take (i+1)).map Tm.abs = (l.take i).map Tm.abs++[l[i].abs]:=by
  rw [List.take_succ_eq_append_getElem hi,List.map_append]; rfl
theorem size_take {l:List Tm} {i:Nat} (hi:i < l.length):sizeTs ((l.take (i+1)).map Tm.abs)=sizeTs ((l.take i).map Tm.abs)+sizeT l[i].abs:=by
  rw [take_abs hi,sizeTs_app,sizeTs_cons,sizeTs_nil]; omega
theorem high_take {l:List Tm} {i:Nat} (hi:i < l.length):highTs ((l.take (i+1)).map Tm.abs)=max (highTs ((l.take i).map Tm.abs)) (highT l[i].abs):=by
  rw [take_abs hi,highTs_app,highTs_cons,highTs_nil]; omega
theorem size_take_le (l:List Tm) (i:Nat):sizeTs ((l.take i).map Tm.abs)≤sizeTs (l.map Tm.abs):=by
  have:=sizeTs_app ((l.take i).map Tm.abs) ((l.drop i).map Tm.abs)
  rw [← List.map_append,List.take_append_drop] at this
  omega
theorem high_take_le (l:List Tm) (i:Nat):highTs ((l.take i).map Tm.abs)≤highTs (l.map Tm.abs):=by
  have:=highTs_app ((l.take i).map Tm.abs) ((l.drop i).map Tm.abs)
  rw [← List.map_append,List.take_append_drop] at this
  omega
theorem size_abs (t:Tm):sizeT t.abs=1+sizeTs (t.kids.el.map Tm.abs):=by rw [sizeT_eq,abs_kids]
theorem high_abs (t:Tm):highT t.abs=1+highTs (t.kids.el.map Tm.abs):=by rw [highT_eq,abs_kids]
theorem idx_size {l:List Tm} {i:Nat} (hi:i≤l.length):i≤sizeTs ((l.take i).map Tm.abs):=by
  have:=sizeTs_len ((l.take i).map Tm.abs)
  rw [List.length_map,List.length_take] at this
  omega

set_option maxHeartbeats 8000000 in
theorem rParts:∀ t:Tm,∀ left high:Int,left≤1000000→high≤1000000→∀ (n:Nat) (h:Hps),Gd n h →
    callFn (LX (cFk kL Try.prog)) n h [(D.agg [.int .i64 (t).form,.int .i64 (t).n,.bool (t).hid,.str (t).name,slD 2 encL (t).levels,slD 6 encT (t).kids]),.int .i64 left,.int .i64 high] (cFk kL Try.prog 68) = .ok (.tup [.int .i64 (partsV t.abs left high).1,.int .i64 (partsV t.abs left high).2]) n h:=by
  refine Tm.ind ?_
  intro t ih left high hL hH n h hg
  have hgn:=hg n (Nat.le_refl _)
  have hsz:=size_abs t
  have hhg:=high_abs t
  have H0:Hp n h (n+1) ((n,(Ob.row 6 [.agg [.int .i64 (t).form,.int .i64 (t).n,.bool (t).hid,.str (t).name,slD 2 encL (t).levels,slD 6 encT (t).kids]]))::h) := (Hp.start hg).box (r:=n) (m:=n+1) (Nat.le_refl _) (by omega) (flatTA t)
  rw [f68_eq]; unfold c68; rw [callFn_eq (by rfl)]
  by_cases y1:left < 1
  · rw [partsV_out (by omega)]
    simp (disch:=first|assumption|omega|(simp (disch:=first|assumption|omega) only [sB,reduceAdd,reduceLT,reduceLeDiff,reduceEqDiff,reduceMul,↓reduceIte];done)|fail) only [sA,↓reduceIte,reduceLT,reduceEqDiff,reduceAdd,reduceLeDiff,y1]
  by_cases y2:high < 1
  · rw [partsV_out (by omega)]
    simp (disch:=first|assumption|omega|(simp (disch:=first|assumption|omega) only [sB,reduceAdd,reduceLT,reduceLeDiff,reduceEqDiff,reduceMul,↓reduceIte];done)|fail) only [sA,↓reduceIte,reduceLT,reduceEqDiff,reduceAdd,reduceLeDiff,y1,y2]
  simp (disch:=first|assumption|omega|(simp (disch:=first|assumption|omega) only [sB,reduceAdd,reduceLT,reduceLeDiff,reduceEqDiff,reduceMul,↓reduceIte];done)|fail) only [sA,↓reduceIte,reduceLT,reduceEqDiff,reduceAdd,reduceLeDiff,y1,y2]
  generalize hr:LX (cFk kL Try.prog) (.loop l68_0) _ _ _=r
  obtain ⟨x,e2,n2,h2,rfl,H2,q⟩:=loop_up hr t.kids.el.length
    (fun i e n' h'=>Hp n h n' h'∧n+1≤n'∧getO h' n = (Ob.row 6 [.agg [.int .i64 (t).form,.int .i64 (t).n,.bool (t).hid,.str (t).name,slD 2 encL (t).levels,slD 6 encT (t).kids]]) ∧ (1 + (sizeTs ((t.kids.el.take i).map Tm.abs):Int)≤left) ∧ ((highTs ((t.kids.el.take i).map Tm.abs):Int) < high)∧get (po 1) e = .int .i64 left∧get (po 2) e = .int .i64 high∧get (po 3) e = .ptr n 0 0∧get (po 8) e = .int .i64 (1 + (sizeTs ((t.kids.el.take i).map Tm.abs):Int))∧get (po 9) e = .int .i64 (highTs ((t.kids.el.take i).map Tm.abs):Int)∧get (po 10) e = .int .i64 (i:Nat))
    (fun x e n' h'=>Hp n h n' h' ∧ ((x = .exit 0 ∧ (1 + (sizeTs (t.kids.el.map Tm.abs):Int)≤left) ∧ ((highTs (t.kids.el.map Tm.abs):Int) < high)∧get (po 8) e = .int .i64 (1 + (sizeTs (t.kids.el.map Tm.abs):Int))∧get (po 9) e = .int .i64 (highTs (t.kids.el.map Tm.abs):Int)) ∨ (x = .ret∧¬ ((sizeT t.abs:Int)≤left ∧ (highT t.abs:Int)≤high)∧get (po 6) e = .int .i64 1073741824∧get (po 7) e = .int .i64 1073741824)))
    (by
      rintro e n' h' ⟨H,p1,b1,z1,z2,g1,g2,g3,g8,g9,g10⟩
      rw [List.take_length] at z1 z2 g8 g9
      unfold l68_0
      simp (disch:=first|assumption|omega|(simp (disch:=first|assumption|omega) only [sB,reduceAdd,reduceLT,reduceLeDiff,reduceEqDiff,reduceMul,↓reduceIte];done)|fail) only [sA,↓reduceIte,reduceLT,reduceEqDiff,reduceAdd,reduceLeDiff,g3,g10,b1]
      exact ⟨_,_,_,_,rfl,by simp,H.mono (by omega),.inl ⟨rfl,z1,z2,by simp +decide only [sG,g8],by simp +decide only [sG,g9]⟩⟩)
    (by
      rintro i e n' h' hi ⟨H,p1,b1,z1,z2,g1,g2,g3,g8,g9,g10⟩
      have hA:=size_take hi
      have hB:=high_take hi
      have hA2:=size_take_le t.kids.el (i+1)
      have hB2:=high_take_le t.kids.el (i+1)
      have hI:=idx_size (l:=t.kids.el) (Nat.le_of_lt hi)
      have hks:=sizeT_pos t.kids.el[i].abs
      have hkh:=highT_pos t.kids.el[i].abs
      generalize sizeTs ((t.kids.el.take i).map Tm.abs)=A at z1 g8 hA hI
      generalize highTs ((t.kids.el.take i).map Tm.abs)=B at z2 g9 hB
      have hG:∀ m,n'≤m→Gd m h':=fun m hm=>H.good' hm
      have c1:∀ m h,Gd m h→callFn (LX (cFk kL Try.prog)) m h [(D.agg [.int .i64 (t.kids.el[i]).form,.int .i64 (t.kids.el[i]).n,.bool (t.kids.el[i]).hid,.str (t.kids.el[i]).name,slD 2 encL (t.kids.el[i]).levels,slD 6 encT (t.kids.el[i]).kids]),.int .i64 (left - (1+A)),.int .i64 (high - 1)] (cFk kL Try.prog 68) = .ok (.tup [.int .i64 (partsV t.kids.el[i].abs (left - (1+A)) (high - 1)).1,.int .i64 (partsV t.kids.el[i].abs (left - (1+A)) (high - 1)).2]) m h:=fun m h hg=>ih _ (List.getElem_mem hi) _ _ (by omega) (by omega) m h hg
      unfold l68_0
      by_cases hk : (sizeT t.kids.el[i].abs:Int)≤left - (1+A) ∧ (highT t.kids.el[i].abs:Int)≤high - 1
      · rw [partsV_in hk] at c1
        have y3:¬ (1 + (A:Int) + (sizeT t.kids.el[i].abs:Int) > left):=by omega
        by_cases y4 : (highT t.kids.el[i].abs:Int) > (B:Int)
        · have y5:¬ ((highT t.kids.el[i].abs:Int) ≥ high):=by omega
          simp (disch:=first|assumption|omega|(simp (disch:=first|assumption|omega) only [sB,reduceAdd,reduceLT,reduceLeDiff,reduceEqDiff,reduceMul,↓reduceIte,hG];done)|fail) only [sA,↓reduceIte,reduceLT,reduceEqDiff,reduceAdd,reduceLeDiff,g1,g2,g3,g8,g9,g10,b1,c1,encT_eq,y3,y4,y5,hG]
          exact ⟨_,_,_,_,rfl,.inl ⟨rfl,H.mono (by omega),by omega,b1,by rw [hA]; omega,by rw [hB]; omega,by simp +decide only [sG,g1],by simp +decide only [sG,g2],by simp +decide only [sG,g3],by rw [hA,show (1 + ((A+sizeT t.kids.el[i].abs:Nat):Int))=1 + (A:Int) + (sizeT t.kids.el[i].abs:Int) by omega]; simp (disch:=first|assumption|omega|(simp (disch:=first|assumption|omega) only [sB,reduceAdd,reduceLT,reduceLeDiff,reduceEqDiff,reduceMul,↓reduceIte];done)|fail) only [sA,↓reduceIte,reduceLT,reduceEqDiff,reduceAdd,reduceLeDiff],by rw [hB,show max B (highT t.kids.el[i].abs)=highT t.kids.el[i].abs by omega]; simp (disch:=first|assumption|omega|(simp (disch:=first|assumption|omega) only [sB,reduceAdd,reduceLT,reduceLeDiff,reduceEqDiff,reduceMul,↓reduceIte];done)|fail) only [sA,↓reduceIte,reduceLT,reduceEqDiff,reduceAdd,reduceLeDiff],by simp +decide only [sG]⟩⟩
        · have y5:¬ ((B:Int) ≥ high):=by omega
          simp (disch:=first|assumption|omega|(simp (disch:=first|assumption|omega) only [sB,reduceAdd,reduceLT,reduceLeDiff,reduceEqDiff,reduceMul,↓reduceIte,hG];done)|fail) only [sA,↓reduceIte,reduceLT,reduceEqDiff,reduceAdd,reduceLeDiff,g1,g2,g3,g8,g9,g10,b1,c1,encT_eq,y3,y4,y5,hG]
          exact ⟨_,_,_,_,rfl,.inl ⟨rfl,H.mono (by omega),by omega,b1,by rw [hA]; omega,by rw [hB]; omega,by simp +decide only [sG,g1],by simp +decide only [sG,g2],by simp +decide only [sG,g3],by rw [hA,show (1 + ((A+sizeT t.kids.el[i].abs:Nat):Int))=1 + (A:Int) + (sizeT t.kids.el[i].abs:Int) by omega]; simp (disch:=first|assumption|omega|(simp (disch:=first|assumption|omega) only [sB,reduceAdd,reduceLT,reduceLeDiff,reduceEqDiff,reduceMul,↓reduceIte];done)|fail) only [sA,↓reduceIte,reduceLT,reduceEqDiff,reduceAdd,reduceLeDiff],by rw [hB,show max B (highT t.kids.el[i].abs)=B by omega]; simp (disch:=first|assumption|omega|(simp (disch:=first|assumption|omega) only [sB,reduceAdd,reduceLT,reduceLeDiff,reduceEqDiff,reduceMul,↓reduceIte];done)|fail) only [sA,↓reduceIte,reduceLT,reduceEqDiff,reduceAdd,reduceLeDiff,g9],by simp +decide only [sG]⟩⟩
      · rw [partsV_out hk] at c1
        have y3:1 + (A:Int)+1073741824 > left:=by omega
        have y4 : (1073741824:Int) > (B:Int):=by omega
        simp (disch:=first|assumption|omega|(simp (disch:=first|assumption|omega) only [sB,reduceAdd,reduceLT,reduceLeDiff,reduceEqDiff,reduceMul,↓reduceIte,hG];done)|fail) only [sA,↓reduceIte,reduceLT,reduceEqDiff,reduceAdd,reduceLeDiff,g1,g2,g3,g8,g9,g10,b1,c1,encT_eq,y3,y4,hG]
        exact ⟨_,_,_,_,rfl,.inr ⟨by simp,H.mono (by omega),.inr ⟨rfl,by omega,by simp +decide only [sG],by simp +decide only [sG]⟩⟩⟩)
    ⟨H0.mono (by omega),by omega,by simp (disch:=first|assumption|omega|(simp (disch:=first|assumption|omega) only [sB,reduceAdd,reduceLT,reduceLeDiff,reduceEqDiff,reduceMul,↓reduceIte];done)|fail) only [sA,↓reduceIte,reduceLT,reduceEqDiff,reduceAdd,reduceLeDiff],by simp [sizeTs_nil]; omega,by simp [highTs_nil]; omega,by simp +decide only [sG],by simp +decide only [sG],by simp +decide only [sG],by rw [List.take_zero,List.map_nil,sizeTs_nil]; simp (disch:=first|assumption|omega|(simp (disch:=first|assumption|omega) only [sB,reduceAdd,reduceLT,reduceLeDiff,reduceEqDiff,reduceMul,↓reduceIte];done)|fail) only [sA,↓reduceIte,reduceLT,reduceEqDiff,reduceAdd,reduceLeDiff]; rfl,by rw [List.take_zero,List.map_nil,highTs_nil]; simp (disch:=first|assumption|omega|(simp (disch:=first|assumption|omega) only [sB,reduceAdd,reduceLT,reduceLeDiff,reduceEqDiff,reduceMul,↓reduceIte];done)|fail) only [sA,↓reduceIte,reduceLT,reduceEqDiff,reduceAdd,reduceLeDiff],by simp (disch:=first|assumption|omega|(simp (disch:=first|assumption|omega) only [sB,reduceAdd,reduceLT,reduceLeDiff,reduceEqDiff,reduceMul,↓reduceIte];done)|fail) only [sA,↓reduceIte,reduceLT,reduceEqDiff,reduceAdd,reduceLeDiff]⟩
  rcases q with ⟨rfl,z1,z2,g8,g9⟩ | ⟨rfl,z1,g6,g7⟩
  · rw [partsV_in (by omega),hsz,hhg]
    show _=Rd.ok (.tup [.int .i64 ((1+sizeTs (t.kids.el.map Tm.abs):Nat):Int),.int .i64 ((1+highTs (t.kids.el.map Tm.abs):Nat):Int)]) n h
    generalize sizeTs (t.kids.el.map Tm.abs)=S at *
    generalize highTs (t.kids.el.map Tm.abs)=T at *
    rw [show ((1+S:Nat):Int)=1 + (S:Int) by omega,show 1+T=T+1 by omega]
    simp (disch:=first|assumption|omega|(simp (disch:=first|assumption|omega) only [sB,reduceAdd,reduceLT,reduceLeDiff,reduceEqDiff,reduceMul,↓reduceIte];done)|fail) only [sA,↓reduceIte,reduceLT,reduceEqDiff,reduceAdd,reduceLeDiff,g8,g9,finish_flat (d := .tup [.int .i64 (1 + (S:Int)),.int .i64 ((T+1:Nat):Int)]) rfl (H2.mono (show n2≤n2+5 by omega))]
  · rw [partsV_out z1]
    simp (disch:=first|assumption|omega|(simp (disch:=first|assumption|omega) only [sB,reduceAdd,reduceLT,reduceLeDiff,reduceEqDiff,reduceMul,↓reduceIte];done)|fail) only [sA,↓reduceIte,reduceLT,reduceEqDiff,reduceAdd,reduceLeDiff,g6,g7,finish_flat (d := .tup [.int .i64 1073741824,.int .i64 1073741824]) rfl H2]
end Go.Proofs.Ytdijijblccmfbaa

/- The reference's check of a term: its forms; Check,Size. No condition but that rows are not longer than any. -/
namespace Go.Proofs.Ytdijijblccmfbaa
open Go
open Nat (reduceAdd reduceLT reduceLeDiff reduceEqDiff reduceMul)

section
variable (n:Nat) (h:Hps) (t:Tm)
set_option maxHeartbeats 4000000 in
theorem fLevs {n0:Nat} {e:Tr} {h':Hps} {r:Re} {K:D} (hr:LX (cFk kL Try.prog) (.loop l70_0) e n0 h'=r) (H:Hp n h n0 h') (p0:n+1≤n0) (b1:getO h' n = (Ob.row 6 [.agg [.int .i64 (t).form,.int .i64 (t).n,.bool (t).hid,.str (t).name,slD 2 encL (t).levels,slD 6 encT (t).kids]])) (hl:t.levels.el.length≤9223372036854775807)
    (g1:get (po 1) e = .ptr n 0 0) (g3:get (po 3) e=K) (g4:get (po 4) e = .int .i64 0) :
    ∃ x e' n' h'',r = .ok x e' n' h''∧Hp n h n' h''∧n0≤n'∧getO h'' n = (Ob.row 6 [.agg [.int .i64 (t).form,.int .i64 (t).n,.bool (t).hid,.str (t).name,slD 2 encL (t).levels,slD 6 encT (t).kids]]) ∧ ((x = .exit 1 ∧ (t.levels.el.all fun l=>l.lev.canon)=true∧get (po 1) e' = .ptr n 0 0∧get (po 3) e'=K) ∨ (x = .ret ∧ (t.levels.el.all fun l=>l.lev.canon)=false∧get (po 2) e' = .bool false)):=by
  refine loop_up hr t.levels.el.length
    (fun i e n' h''=>Hp n h n' h''∧n0≤n'∧getO h'' n = (Ob.row 6 [.agg [.int .i64 (t).form,.int .i64 (t).n,.bool (t).hid,.str (t).name,slD 2 encL (t).levels,slD 6 encT (t).kids]]) ∧ ((t.levels.el.drop i).all fun l=>l.lev.canon) = (t.levels.el.all fun l=>l.lev.canon)∧get (po 1) e = .ptr n 0 0∧get (po 3) e=K∧get (po 4) e = .int .i64 (i:Nat))
    (fun x e' n' h''=>Hp n h n' h''∧n0≤n'∧getO h'' n = (Ob.row 6 [.agg [.int .i64 (t).form,.int .i64 (t).n,.bool (t).hid,.str (t).name,slD 2 encL (t).levels,slD 6 encT (t).kids]]) ∧ ((x = .exit 1 ∧ (t.levels.el.all fun l=>l.lev.canon)=true∧get (po 1) e' = .ptr n 0 0∧get (po 3) e'=K) ∨ (x = .ret ∧ (t.levels.el.all fun l=>l.lev.canon)=false∧get (po 2) e' = .bool false)))
    ?_ ?_ ⟨H,Nat.le_refl _,b1,rfl,g1,g3,g4⟩
  · rintro e n' h'' ⟨H,p1,b1,ha,g1,g3,g4⟩
    rw [List.drop_length] at ha
    unfold l70_0
    simp (disch:=first|assumption|omega|(simp (disch:=first|assumption|omega) only [sB,reduceAdd,reduceLT,reduceLeDiff,reduceEqDiff,reduceMul,↓reduceIte];done)|fail) only [sA,↓reduceIte,reduceLT,reduceEqDiff,reduceAdd,reduceLeDiff,g1,g4,b1]
    exact ⟨_,_,_,_,rfl,by simp,H.mono (by omega),by omega,b1,.inl ⟨rfl,ha.symm,by simp +decide only [sG,g1],by simp +decide only [sG,g3]⟩⟩
  · rintro i e n' h'' hi ⟨H,p1,b1,ha,g1,g3,g4⟩
    rw [List.drop_eq_getElem_cons hi,List.all_cons] at ha
    have hG:∀ m,n'≤m→Gd m h'':=fun m hm=>H.good' hm
    generalize hW:t.levels.el[i]=W at ha
    obtain ⟨an,av⟩:=W
    have c1:∀ m h,Gd m h→callFn (LX (cFk kL Try.prog)) m h [(D.agg [.int .i64 (an),slD 2 encV (av)])] (cFk kL Try.prog 100) = .ok (.bool (Lev.canon ⟨an,av.el⟩)) m h:=fun m h hg=>rCanon m h hg an av
    replace ha : (Lev.canon ⟨an,av.el⟩ && (t.levels.el.drop (i+1)).all fun l=>l.lev.canon) = (t.levels.el.all fun l=>l.lev.canon):=ha
    unfold l70_0
    cases hc:Lev.canon ⟨an,av.el⟩ with
    | true =>
      rw [hc] at c1
      rw [hc,Bool.true_and] at ha
      simp (disch:=first|assumption|omega|(simp (disch:=first|assumption|omega) only [sB,reduceAdd,reduceLT,reduceLeDiff,reduceEqDiff,reduceMul,↓reduceIte,hG];done)|fail) only [sA,↓reduceIte,reduceLT,reduceEqDiff,reduceAdd,reduceLeDiff,g1,g4,b1,hW,encL,c1,hG]
      exact ⟨_,_,_,_,rfl,.inl ⟨rfl,H.mono (by omega),by omega,b1,ha,by simp +decide only [sG,g1],by simp +decide only [sG,g3],by simp +decide only [sG]⟩⟩
    | false =>
      rw [hc] at c1
      rw [hc,Bool.false_and] at ha
      simp (disch:=first|assumption|omega|(simp (disch:=first|assumption|omega) only [sB,reduceAdd,reduceLT,reduceLeDiff,reduceEqDiff,reduceMul,↓reduceIte,hG];done)|fail) only [sA,↓reduceIte,reduceLT,reduceEqDiff,reduceAdd,reduceLeDiff,g1,g4,b1,hW,encL,c1,hG]
      exact ⟨_,_,_,_,rfl,.inr ⟨by simp,H.mono (by omega),by omega,b1,.inr ⟨rfl,ha.symm,by simp +decide only [sG]⟩⟩⟩
set_option maxHeartbeats 4000000 in
theorem fKids {n0:Nat} {e:Tr} {h':Hps} {r:Re} (hr:LX (cFk kL Try.prog) (.loop l70_1) e n0 h'=r) (H:Hp n h n0 h') (p0:n+1≤n0) (b1:getO h' n = (Ob.row 6 [.agg [.int .i64 (t).form,.int .i64 (t).n,.bool (t).hid,.str (t).name,slD 2 encL (t).levels,slD 6 encT (t).kids]])) (hl:t.kids.el.length≤9223372036854775807)
    (ih:∀ k,k∈t.kids.el→∀ m h,Gd m h→callFn (LX (cFk kL Try.prog)) m h [(D.agg [.int .i64 (k).form,.int .i64 (k).n,.bool (k).hid,.str (k).name,slD 2 encL (k).levels,slD 6 encT (k).kids])] (cFk kL Try.prog 70) = .ok (.bool (formedT k.abs)) m h)
    (g1:get (po 1) e = .ptr n 0 0) (g3:get (po 3) e = .int .i64 (t.kids.el.length:Nat)) (g6:get (po 6) e = .int .i64 0) :
    ∃ x e' n' h'',r = .ok x e' n' h''∧Hp n h n' h''∧n0≤n' ∧ ((x = .exit 3 ∧ (t.kids.el.all fun k=>formedT k.abs)=true) ∨ (x = .ret ∧ (t.kids.el.all fun k=>formedT k.abs)=false∧get (po 2) e' = .bool false)):=by
  refine loop_up hr t.kids.el.length
    (fun i e n' h''=>Hp n h n' h''∧n0≤n'∧getO h'' n = (Ob.row 6 [.agg [.int .i64 (t).form,.int .i64 (t).n,.bool (t).hid,.str (t).name,slD 2 encL (t).levels,slD 6 encT (t).kids]]) ∧ ((t.kids.el.drop i).all fun k=>formedT k.abs) = (t.kids.el.all fun k=>formedT k.abs)∧get (po 1) e = .ptr n 0 0∧get (po 3) e = .int .i64 (t.kids.el.length:Nat)∧get (po 6) e = .int .i64 (i:Nat))
    (fun x e' n' h''=>Hp n h n' h''∧n0≤n' ∧ ((x = .exit 3 ∧ (t.kids.el.all fun k=>formedT k.abs)=true) ∨ (x = .ret ∧ (t.kids.el.all fun k=>formedT k.abs)=false∧get (po 2) e' = .bool false)))
    ?_ ?_ ⟨H,Nat.le_refl _,b1,rfl,g1,g3,g6⟩
  · rintro e n' h'' ⟨H,p1,b1,ha,g1,g3,g6⟩
    rw [List.drop_length] at ha
    unfold l70_1
    simp (disch:=first|assumption|omega|(simp (disch:=first|assumption|omega) only [sB,reduceAdd,reduceLT,reduceLeDiff,reduceEqDiff,reduceMul,↓reduceIte];done)|fail) only [sA,↓reduceIte,reduceLT,reduceEqDiff,reduceAdd,reduceLeDiff,g1,g3,g6,b1]
    exact ⟨_,_,_,_,rfl,by simp,H.mono (by omega),by omega,.inl ⟨rfl,ha.symm⟩⟩
  · rintro i e n' h'' hi ⟨H,p1,b1,ha,g1,g3,g6⟩
    rw [List.drop_eq_getElem_cons hi,List.all_cons] at ha
    have hG:∀ m,n'≤m→Gd m h'':=fun m hm=>H.good' hm
    have c1:=ih t.kids.el[i] (List.getElem_mem hi)
    unfold l70_1
    cases hc:formedT t.kids.el[i].abs with
    | true =>
      rw [hc] at c1
      rw [hc,Bool.true_and] at ha
      simp (disch:=first|assumption|omega|(simp (disch:=first|assumption|omega) only [sB,reduceAdd,reduceLT,reduceLeDiff,reduceEqDiff,reduceMul,↓reduceIte,hG];done)|fail) only [sA,↓reduceIte,reduceLT,reduceEqDiff,reduceAdd,reduceLeDiff,g1,g3,g6,b1,encT_eq,c1,hG]
      exact ⟨_,_,_,_,rfl,.inl ⟨rfl,H.mono (by omega),by omega,b1,ha,by simp +decide only [sG,g1],by simp +decide only [sG,g3],by simp +decide only [sG]⟩⟩
    | false =>
      rw [hc] at c1
      rw [hc,Bool.false_and] at ha
      simp (disch:=first|assumption|omega|(simp (disch:=first|assumption|omega) only [sB,reduceAdd,reduceLT,reduceLeDiff,reduceEqDiff,reduceMul,↓reduceIte,hG];done)|fail) only [sA,↓reduceIte,reduceLT,reduceEqDiff,reduceAdd,reduceLeDiff,g1,g3,g6,b1,encT_eq,c1,hG]
      exact ⟨_,_,_,_,rfl,.inr ⟨by simp,H.mono (by omega),by omega,.inr ⟨rfl,ha.symm,by simp +decide only [sG]⟩⟩⟩
end

set_option maxHeartbeats 8000000 in
theorem rFormed:∀ t:Tm,saneT t.abs=true→∀ (n:Nat) (h:Hps),Gd n h→callFn (LX (cFk kL Try.prog)) n h [(D.agg [.int .i64 (t).form,.int .i64 (t).n,.bool (t).hid,.str (t).name,slD 2 encL (t).levels,slD 6 encT (t).kids])] (cFk kL Try.prog 70) = .ok (.bool (formedT t.abs)) n h:=by
  refine Tm.ind ?_
  intro t ih0 hs n h hg
  obtain ⟨⟨hll,hkl⟩,hsk⟩:=sane_tm hs
  have ih:∀ k,k∈t.kids.el→∀ m h,Gd m h→callFn (LX (cFk kL Try.prog)) m h [(D.agg [.int .i64 (k).form,.int .i64 (k).n,.bool (k).hid,.str (k).name,slD 2 encL (k).levels,slD 6 encT (k).kids])] (cFk kL Try.prog 70) = .ok (.bool (formedT k.abs)) m h:=fun k hk m h hg=>ih0 k hk (hsk k hk) m h hg
  clear ih0
  have hgn:=hg n (Nat.le_refl _)
  have hG:∀ m,n≤m→Gd m h:=fun m hm=>Gd.mono hg hm
  have H0:Hp n h (n+1) ((n,(Ob.row 6 [.agg [.int .i64 (t).form,.int .i64 (t).n,.bool (t).hid,.str (t).name,slD 2 encL (t).levels,slD 6 encT (t).kids]]))::h) := (Hp.start hg).box (r:=n) (m:=n+1) (Nat.le_refl _) (by omega) (flatTA t)
  have ck:=fun m h hg=>rKids m h hg t.form
  rw [formed_tm,part_tm]
  by_cases y0:kidsN t.form = (t.kids.el.length:Int)
  case neg =>
    rw [decide_eq_false y0,Bool.false_and,Bool.false_and]
    rw [f70_eq]; unfold c70; rw [callFn_eq (by rfl)]
    by_cases y1:kidsN t.form < 0
    · simp (disch:=first|assumption|omega|(simp (disch:=first|assumption|omega) only [sB,reduceAdd,reduceLT,reduceLeDiff,reduceEqDiff,reduceMul,↓reduceIte,hG,gd_tm];done)|fail) only [sA,↓reduceIte,reduceLT,reduceEqDiff,reduceAdd,reduceLeDiff,ck,y1,hG,gd_tm]
    · simp (disch:=first|assumption|omega|(simp (disch:=first|assumption|omega) only [sB,reduceAdd,reduceLT,reduceLeDiff,reduceEqDiff,reduceMul,↓reduceIte,hG,gd_tm];done)|fail) only [sA,↓reduceIte,reduceLT,reduceEqDiff,reduceAdd,reduceLeDiff,ck,y0,y1,hG,gd_tm]
  rw [decide_eq_true y0,Bool.true_and]
  rw [y0] at ck
  have hGb:∀ m,n+1≤m→Gd m ((n,(Ob.row 6 [.agg [.int .i64 (t).form,.int .i64 (t).n,.bool (t).hid,.str (t).name,slD 2 encL (t).levels,slD 6 encT (t).kids]]))::h):=fun m hm=>H0.good' hm
  have tailK:∀ {e:Tr} {n0:Nat} {h':Hps} {r:Re},LX (cFk kL Try.prog) (.loop l70_1) e n0 h'=r→Hp n h n0 h'→n+1≤n0→getO h' n = (Ob.row 6 [.agg [.int .i64 (t).form,.int .i64 (t).n,.bool (t).hid,.str (t).name,slD 2 encL (t).levels,slD 6 encT (t).kids]])→get (po 1) e = .ptr n 0 0→get (po 3) e = .int .i64 (t.kids.el.length:Nat)→get (po 6) e = .int .i64 0 →
      ∃ x e' n' h'',r = .ok x e' n' h''∧Hp n h n' h'' ∧ ((x = .exit 3 ∧ (t.kids.el.all fun k=>formedT k.abs)=true) ∨ (x = .ret ∧ (t.kids.el.all fun k=>formedT k.abs)=false∧get (po 2) e' = .bool false)):=by
    intro e n0 h' r hr H p b1 g1 g3 g6
    obtain ⟨x,e',n',h'',h1,h2,_,h4⟩:=fKids n h t hr H p b1 hkl ih g1 g3 g6
    exact ⟨x,e',n',h'',h1,h2,h4⟩
  have tailL:∀ {e:Tr} {n0:Nat} {h':Hps} {r:Re},LX (cFk kL Try.prog) (.loop l70_0) e n0 h'=r→Hp n h n0 h'→n+1≤n0→getO h' n = (Ob.row 6 [.agg [.int .i64 (t).form,.int .i64 (t).n,.bool (t).hid,.str (t).name,slD 2 encL (t).levels,slD 6 encT (t).kids]])→get (po 1) e = .ptr n 0 0→get (po 3) e = .int .i64 (t.kids.el.length:Nat)→get (po 4) e = .int .i64 0 →
      ∃ x e' n' h'',r = .ok x e' n' h''∧Hp n h n' h''∧n0≤n'∧getO h'' n = (Ob.row 6 [.agg [.int .i64 (t).form,.int .i64 (t).n,.bool (t).hid,.str (t).name,slD 2 encL (t).levels,slD 6 encT (t).kids]]) ∧ ((x = .exit 1 ∧ (t.levels.el.all fun l=>l.lev.canon)=true∧get (po 1) e' = .ptr n 0 0∧get (po 3) e' = .int .i64 (t.kids.el.length:Nat)) ∨ (x = .ret ∧ (t.levels.el.all fun l=>l.lev.canon)=false∧get (po 2) e' = .bool false)) :=
    fun hr H p b1 g1 g3 g4=>fLevs n h t hr H p b1 hll g1 g3 g4
  clear hs hll hkl hsk ih
  generalize hB : (t.kids.el.all fun k=>formedT k.abs)=B at tailK ⊢
  generalize hL : (t.levels.el.all fun l=>l.lev.canon)=L at tailL ⊢
  generalize hf:t.form=f at *
  have y1:¬ ((t.kids.el.length:Nat):Int) < 0:=by omega
  rw [f70_eq]; unfold c70; rw [callFn_eq (by rfl)]
  by_cases f1:f=1
  · subst f1
    rw [if_pos (Or.inl rfl)]
    by_cases y3:t.n < 0
    · rw [decide_eq_false (by omega),Bool.false_and]
      simp (disch:=first|assumption|omega|(simp (disch:=first|assumption|omega) only [sB,reduceAdd,reduceLT,reduceLeDiff,reduceEqDiff,reduceMul,↓reduceIte,hGb];done)|fail) only [sA,↓reduceIte,reduceLT,reduceEqDiff,reduceAdd,reduceLeDiff,ck,y1,y3,hGb]
    by_cases y4:t.n > 1073741824
    · rw [decide_eq_false (by omega),Bool.false_and]
      simp (disch:=first|assumption|omega|(simp (disch:=first|assumption|omega) only [sB,reduceAdd,reduceLT,reduceLeDiff,reduceEqDiff,reduceMul,↓reduceIte,hGb];done)|fail) only [sA,↓reduceIte,reduceLT,reduceEqDiff,reduceAdd,reduceLeDiff,ck,y1,y3,y4,hGb]
    rw [decide_eq_true (by omega),Bool.true_and]
    simp (disch:=first|assumption|omega|(simp (disch:=first|assumption|omega) only [sB,reduceAdd,reduceLT,reduceLeDiff,reduceEqDiff,reduceMul,↓reduceIte,hGb];done)|fail) only [sA,↓reduceIte,reduceLT,reduceEqDiff,reduceAdd,reduceLeDiff,ck,y1,y3,y4,hGb]
    generalize hr:LX (cFk kL Try.prog) (.loop l70_1) _ _ _=r
    obtain ⟨x,e3,n3,h3,rfl,H3,q⟩:=tailK hr (H0.mono (by omega)) (by omega) (by simp (disch:=first|assumption|omega|(simp (disch:=first|assumption|omega) only [sB,reduceAdd,reduceLT,reduceLeDiff,reduceEqDiff,reduceMul,↓reduceIte];done)|fail) only [sA,↓reduceIte,reduceLT,reduceEqDiff,reduceAdd,reduceLeDiff]) (by simp +decide only [sG]) (by simp +decide only [sG]) (by simp +decide only [sG])
    rcases q with ⟨rfl,hb⟩ | ⟨rfl,hb,g2⟩
    · rw [hb]
      simp (disch:=first|assumption|omega|(simp (disch:=first|assumption|omega) only [sB,reduceAdd,reduceLT,reduceLeDiff,reduceEqDiff,reduceMul,↓reduceIte];done)|fail) only [sA,↓reduceIte,reduceLT,reduceEqDiff,reduceAdd,reduceLeDiff,finish_flat (d := .bool true) rfl (H3.mono (show n3≤n3+1 by omega))]
    · rw [hb]
      simp (disch:=first|assumption|omega|(simp (disch:=first|assumption|omega) only [sB,reduceAdd,reduceLT,reduceLeDiff,reduceEqDiff,reduceMul,↓reduceIte];done)|fail) only [sA,↓reduceIte,reduceLT,reduceEqDiff,reduceAdd,reduceLeDiff,g2,finish_flat (d := .bool false) rfl H3]
  by_cases f11:f=11
  · subst f11
    rw [if_pos (Or.inr rfl)]
    by_cases y3:t.n < 0
    · rw [decide_eq_false (by omega),Bool.false_and]
      simp (disch:=first|assumption|omega|(simp (disch:=first|assumption|omega) only [sB,reduceAdd,reduceLT,reduceLeDiff,reduceEqDiff,reduceMul,↓reduceIte,hGb];done)|fail) only [sA,↓reduceIte,reduceLT,reduceEqDiff,reduceAdd,reduceLeDiff,ck,y1,y3,hGb]
    by_cases y4:t.n > 1073741824
    · rw [decide_eq_false (by omega),Bool.false_and]
      simp (disch:=first|assumption|omega|(simp (disch:=first|assumption|omega) only [sB,reduceAdd,reduceLT,reduceLeDiff,reduceEqDiff,reduceMul,↓reduceIte,hGb];done)|fail) only [sA,↓reduceIte,reduceLT,reduceEqDiff,reduceAdd,reduceLeDiff,ck,y1,y3,y4,hGb]
    rw [decide_eq_true (by omega),Bool.true_and]
    simp (disch:=first|assumption|omega|(simp (disch:=first|assumption|omega) only [sB,reduceAdd,reduceLT,reduceLeDiff,reduceEqDiff,reduceMul,↓reduceIte,hGb];done)|fail) only [sA,↓reduceIte,reduceLT,reduceEqDiff,reduceAdd,reduceLeDiff,ck,y1,y3,y4,hGb]
    generalize hr:LX (cFk kL Try.prog) (.loop l70_1) _ _ _=r
    obtain ⟨x,e3,n3,h3,rfl,H3,q⟩:=tailK hr (H0.mono (by omega)) (by omega) (by simp (disch:=first|assumption|omega|(simp (disch:=first|assumption|omega) only [sB,reduceAdd,reduceLT,reduceLeDiff,reduceEqDiff,reduceMul,↓reduceIte];done)|fail) only [sA,↓reduceIte,reduceLT,reduceEqDiff,reduceAdd,reduceLeDiff]) (by simp +decide only [sG]) (by simp +decide only [sG]) (by simp +decide only [sG])
    rcases q with ⟨rfl,hb⟩ | ⟨rfl,hb,g2⟩
    · rw [hb]
      simp (disch:=first|assumption|omega|(simp (disch:=first|assumption|omega) only [sB,reduceAdd,reduceLT,reduceLeDiff,reduceEqDiff,reduceMul,↓reduceIte];done)|fail) only [sA,↓reduceIte,reduceLT,reduceEqDiff,reduceAdd,reduceLeDiff,finish_flat (d := .bool true) rfl (H3.mono (show n3≤n3+1 by omega))]
    · rw [hb]
      simp (disch:=first|assumption|omega|(simp (disch:=first|assumption|omega) only [sB,reduceAdd,reduceLT,reduceLeDiff,reduceEqDiff,reduceMul,↓reduceIte];done)|fail) only [sA,↓reduceIte,reduceLT,reduceEqDiff,reduceAdd,reduceLeDiff,g2,finish_flat (d := .bool false) rfl H3]
  rw [if_neg (by omega)]
  by_cases f7:f=7
  · subst f7
    rw [if_pos rfl]
    have h3:t.kids.el.length=3:=by
      have:kidsN 7=3:=rfl
      omega
    have hi:0 < t.kids.el.length:=by omega
    have hh:t.kids.el.head?.map Tm.form=some t.kids.el[0].form:=by
      rw [List.head?_eq_getElem?,List.getElem?_eq_getElem hi]; rfl
    rw [hh]
    by_cases y3:t.kids.el[0].form=6
    · rw [decide_eq_true (by rw [y3]),Bool.true_and]
      simp (disch:=first|assumption|omega|(simp (disch:=first|assumption|omega) only [sB,reduceAdd,reduceLT,reduceLeDiff,reduceEqDiff,reduceMul,↓reduceIte,hGb,hi];done)|fail) only [sA,↓reduceIte,reduceLT,reduceEqDiff,reduceAdd,reduceLeDiff,ck,y1,y3,encT_eq,hGb,hi]
      generalize hr:LX (cFk kL Try.prog) (.loop l70_1) _ _ _=r
      obtain ⟨x,e3,n3,h3,rfl,H3,q⟩:=tailK hr (H0.mono (by omega)) (by omega) (by simp (disch:=first|assumption|omega|(simp (disch:=first|assumption|omega) only [sB,reduceAdd,reduceLT,reduceLeDiff,reduceEqDiff,reduceMul,↓reduceIte];done)|fail) only [sA,↓reduceIte,reduceLT,reduceEqDiff,reduceAdd,reduceLeDiff]) (by simp +decide only [sG]) (by simp +decide only [sG]) (by simp +decide only [sG])
      rcases q with ⟨rfl,hb⟩ | ⟨rfl,hb,g2⟩
      · rw [hb]
        simp (disch:=first|assumption|omega|(simp (disch:=first|assumption|omega) only [sB,reduceAdd,reduceLT,reduceLeDiff,reduceEqDiff,reduceMul,↓reduceIte];done)|fail) only [sA,↓reduceIte,reduceLT,reduceEqDiff,reduceAdd,reduceLeDiff,finish_flat (d := .bool true) rfl (H3.mono (show n3≤n3+1 by omega))]
      · rw [hb]
        simp (disch:=first|assumption|omega|(simp (disch:=first|assumption|omega) only [sB,reduceAdd,reduceLT,reduceLeDiff,reduceEqDiff,reduceMul,↓reduceIte];done)|fail) only [sA,↓reduceIte,reduceLT,reduceEqDiff,reduceAdd,reduceLeDiff,g2,finish_flat (d := .bool false) rfl H3]
    · rw [decide_eq_false (fun e=>y3 (Option.some.inj e)),Bool.false_and]
      simp (disch:=first|assumption|omega|(simp (disch:=first|assumption|omega) only [sB,reduceAdd,reduceLT,reduceLeDiff,reduceEqDiff,reduceMul,↓reduceIte,hGb,hi];done)|fail) only [sA,↓reduceIte,reduceLT,reduceEqDiff,reduceAdd,reduceLeDiff,ck,y1,y3,encT_eq,hGb,hi]
  rw [if_neg f7]
  by_cases f2:f=2
  · subst f2
    rw [if_pos rfl]
    by_cases y3 : ((t.levels.el.length:Nat):Int)=1
    · rw [decide_eq_true (by omega),Bool.true_and]
      simp (disch:=first|assumption|omega|(simp (disch:=first|assumption|omega) only [sB,reduceAdd,reduceLT,reduceLeDiff,reduceEqDiff,reduceMul,↓reduceIte,hGb];done)|fail) only [sA,↓reduceIte,reduceLT,reduceEqDiff,reduceAdd,reduceLeDiff,ck,y1,y3,hGb]
      generalize hr:LX (cFk kL Try.prog) (.loop l70_0) _ _ _=r
      obtain ⟨x,e2,n2,h2,rfl,H2,p2,b2,q⟩:=tailL hr (H0.mono (by omega)) (by omega) (by simp (disch:=first|assumption|omega|(simp (disch:=first|assumption|omega) only [sB,reduceAdd,reduceLT,reduceLeDiff,reduceEqDiff,reduceMul,↓reduceIte];done)|fail) only [sA,↓reduceIte,reduceLT,reduceEqDiff,reduceAdd,reduceLeDiff]) (by simp +decide only [sG]) (by simp +decide only [sG]) (by simp +decide only [sG])
      rcases q with ⟨rfl,hb0,k1,k3⟩ | ⟨rfl,hb0,k2⟩
      case inr =>
        rw [hb0,Bool.false_and]
        simp (disch:=first|assumption|omega|(simp (disch:=first|assumption|omega) only [sB,reduceAdd,reduceLT,reduceLeDiff,reduceEqDiff,reduceMul,↓reduceIte];done)|fail) only [sA,↓reduceIte,reduceLT,reduceEqDiff,reduceAdd,reduceLeDiff,k2,finish_flat (d := .bool false) rfl H2]
      rw [hb0,Bool.true_and]
      simp (disch:=first|assumption|omega|(simp (disch:=first|assumption|omega) only [sB,reduceAdd,reduceLT,reduceLeDiff,reduceEqDiff,reduceMul,↓reduceIte];done)|fail) only [sA,↓reduceIte,reduceLT,reduceEqDiff,reduceAdd,reduceLeDiff,k1,k3]
      generalize hr:LX (cFk kL Try.prog) (.loop l70_1) _ _ _=r
      obtain ⟨x,e3,n3,h3,rfl,H3,q⟩:=tailK hr (H2.mono (by omega)) (by omega) b2 (by simp +decide only [sG,k1]) (by simp +decide only [sG,k3]) (by simp +decide only [sG])
      rcases q with ⟨rfl,hb⟩ | ⟨rfl,hb,g2⟩
      · rw [hb]
        simp (disch:=first|assumption|omega|(simp (disch:=first|assumption|omega) only [sB,reduceAdd,reduceLT,reduceLeDiff,reduceEqDiff,reduceMul,↓reduceIte];done)|fail) only [sA,↓reduceIte,reduceLT,reduceEqDiff,reduceAdd,reduceLeDiff,finish_flat (d := .bool true) rfl (H3.mono (show n3≤n3+1 by omega))]
      · rw [hb]
        simp (disch:=first|assumption|omega|(simp (disch:=first|assumption|omega) only [sB,reduceAdd,reduceLT,reduceLeDiff,reduceEqDiff,reduceMul,↓reduceIte];done)|fail) only [sA,↓reduceIte,reduceLT,reduceEqDiff,reduceAdd,reduceLeDiff,g2,finish_flat (d := .bool false) rfl H3]
    · rw [decide_eq_false (by omega),Bool.false_and,Bool.false_and]
      simp (disch:=first|assumption|omega|(simp (disch:=first|assumption|omega) only [sB,reduceAdd,reduceLT,reduceLeDiff,reduceEqDiff,reduceMul,↓reduceIte,hGb];done)|fail) only [sA,↓reduceIte,reduceLT,reduceEqDiff,reduceAdd,reduceLeDiff,ck,y1,y3,hGb]
  rw [if_neg f2]
  by_cases f10:f=10
  · subst f10
    rw [if_pos rfl]
    by_cases y3:t.name=[]
    · rw [decide_eq_false (fun e=>e.1 y3),Bool.false_and,Bool.false_and]
      have y3':decide (t.name=[])=true:=decide_eq_true y3
      simp (disch:=first|assumption|omega|(simp (disch:=first|assumption|omega) only [sB,reduceAdd,reduceLT,reduceLeDiff,reduceEqDiff,reduceMul,↓reduceIte,hGb];done)|fail) only [sA,↓reduceIte,reduceLT,reduceEqDiff,reduceAdd,reduceLeDiff,ck,y1,y3',str_eql,len_str,hGb]
    have y3':decide (t.name=[])=false:=decide_eq_false y3
    by_cases y4 : ((t.name.length:Nat):Int) > 60
    · rw [decide_eq_false (fun e=>by have:=e.2; omega),Bool.false_and,Bool.false_and]
      simp (disch:=first|assumption|omega|(simp (disch:=first|assumption|omega) only [sB,reduceAdd,reduceLT,reduceLeDiff,reduceEqDiff,reduceMul,↓reduceIte,hGb];done)|fail) only [sA,↓reduceIte,reduceLT,reduceEqDiff,reduceAdd,reduceLeDiff,ck,y1,y3',y4,str_eql,len_str,hGb]
    rw [decide_eq_true (⟨y3,by omega⟩:t.name≠[]∧t.name.length≤60),Bool.true_and]
    simp (disch:=first|assumption|omega|(simp (disch:=first|assumption|omega) only [sB,reduceAdd,reduceLT,reduceLeDiff,reduceEqDiff,reduceMul,↓reduceIte,hGb];done)|fail) only [sA,↓reduceIte,reduceLT,reduceEqDiff,reduceAdd,reduceLeDiff,ck,y1,y3',y4,str_eql,len_str,hGb]
    generalize hr:LX (cFk kL Try.prog) (.loop l70_0) _ _ _=r
    obtain ⟨x,e2,n2,h2,rfl,H2,p2,b2,q⟩:=tailL hr (H0.mono (by omega)) (by omega) (by simp (disch:=first|assumption|omega|(simp (disch:=first|assumption|omega) only [sB,reduceAdd,reduceLT,reduceLeDiff,reduceEqDiff,reduceMul,↓reduceIte];done)|fail) only [sA,↓reduceIte,reduceLT,reduceEqDiff,reduceAdd,reduceLeDiff]) (by simp +decide only [sG]) (by simp +decide only [sG]) (by simp +decide only [sG])
    rcases q with ⟨rfl,hb0,k1,k3⟩ | ⟨rfl,hb0,k2⟩
    case inr =>
      rw [hb0,Bool.false_and]
      simp (disch:=first|assumption|omega|(simp (disch:=first|assumption|omega) only [sB,reduceAdd,reduceLT,reduceLeDiff,reduceEqDiff,reduceMul,↓reduceIte];done)|fail) only [sA,↓reduceIte,reduceLT,reduceEqDiff,reduceAdd,reduceLeDiff,k2,finish_flat (d := .bool false) rfl H2]
    rw [hb0,Bool.true_and]
    simp (disch:=first|assumption|omega|(simp (disch:=first|assumption|omega) only [sB,reduceAdd,reduceLT,reduceLeDiff,reduceEqDiff,reduceMul,↓reduceIte];done)|fail) only [sA,↓reduceIte,reduceLT,reduceEqDiff,reduceAdd,reduceLeDiff,k1,k3]
    generalize hr:LX (cFk kL Try.prog) (.loop l70_1) _ _ _=r
    obtain ⟨x,e3,n3,h3,rfl,H3,q⟩:=tailK hr (H2.mono (by omega)) (by omega) b2 (by simp +decide only [sG,k1]) (by simp +decide only [sG,k3]) (by simp +decide only [sG])
    rcases q with ⟨rfl,hb⟩ | ⟨rfl,hb,g2⟩
    · rw [hb]
      simp (disch:=first|assumption|omega|(simp (disch:=first|assumption|omega) only [sB,reduceAdd,reduceLT,reduceLeDiff,reduceEqDiff,reduceMul,↓reduceIte];done)|fail) only [sA,↓reduceIte,reduceLT,reduceEqDiff,reduceAdd,reduceLeDiff,finish_flat (d := .bool true) rfl (H3.mono (show n3≤n3+1 by omega))]
    · rw [hb]
      simp (disch:=first|assumption|omega|(simp (disch:=first|assumption|omega) only [sB,reduceAdd,reduceLT,reduceLeDiff,reduceEqDiff,reduceMul,↓reduceIte];done)|fail) only [sA,↓reduceIte,reduceLT,reduceEqDiff,reduceAdd,reduceLeDiff,g2,finish_flat (d := .bool false) rfl H3]
  rw [if_neg f10,Bool.true_and]
  simp (disch:=first|assumption|omega|(simp (disch:=first|assumption|omega) only [sB,reduceAdd,reduceLT,reduceLeDiff,reduceEqDiff,reduceMul,↓reduceIte,hGb];done)|fail) only [sA,↓reduceIte,reduceLT,reduceEqDiff,reduceAdd,reduceLeDiff,ck,y1,f1,f2,f7,f10,f11,hGb]
  generalize hr:LX (cFk kL Try.prog) (.loop l70_1) _ _ _=r
  obtain ⟨x,e3,n3,h3,rfl,H3,q⟩:=tailK hr (H0.mono (by omega)) (by omega) (by simp (disch:=first|assumption|omega|(simp (disch:=first|assumption|omega) only [sB,reduceAdd,reduceLT,reduceLeDiff,reduceEqDiff,reduceMul,↓reduceIte];done)|fail) only [sA,↓reduceIte,reduceLT,reduceEqDiff,reduceAdd,reduceLeDiff]) (by simp +decide only [sG]) (by simp +decide only [sG]) (by simp +decide only [sG])
  rcases q with ⟨rfl,hb⟩ | ⟨rfl,hb,g2⟩
  · rw [hb]
    simp (disch:=first|assumption|omega|(simp (disch:=first|assumption|omega) only [sB,reduceAdd,reduceLT,reduceLeDiff,reduceEqDiff,reduceMul,↓reduceIte];done)|fail) only [sA,↓reduceIte,reduceLT,reduceEqDiff,reduceAdd,reduceLeDiff,finish_flat (d := .bool true) rfl (H3.mono (show n3≤n3+1 by omega))]
  · rw [hb]
    simp (disch:=first|assumption|omega|(simp (disch:=first|assumption|omega) only [sB,reduceAdd,reduceLT,reduceLeDiff,reduceEqDiff,reduceMul,↓reduceIte];done)|fail) only [sA,↓reduceIte,reduceLT,reduceEqDiff,reduceAdd,reduceLeDiff,g2,finish_flat (d := .bool false) rfl H3]

set_option maxHeartbeats 4000000 in
theorem rCheck (t:Tm) (hs:saneT t.abs=true) (n:Nat) (h:Hps) (hg:Gd n h):callFn (LX (cFk kL Try.prog)) n h [(D.agg [.int .i64 (t).form,.int .i64 (t).n,.bool (t).hid,.str (t).name,slD 2 encL (t).levels,slD 6 encT (t).kids])] (cFk kL Try.prog 27) = .ok (.int .i64 (checkT t.abs)) n h:=by
  have hgn:=hg n (Nat.le_refl _)
  have hG:∀ m,n≤m→Gd m h:=fun m hm=>Gd.mono hg hm
  have c1:∀ m h,Gd m h→callFn (LX (cFk kL Try.prog)) m h [(D.agg [.int .i64 (t).form,.int .i64 (t).n,.bool (t).hid,.str (t).name,slD 2 encL (t).levels,slD 6 encT (t).kids]),.int .i64 20000,.int .i64 500] (cFk kL Try.prog 68) = .ok (.tup [.int .i64 (partsV t.abs 20000 500).1,.int .i64 (partsV t.abs 20000 500).2]) m h:=fun m h hg=>rParts t 20000 500 (by decide) (by decide) m h hg
  have c2:∀ m h,Gd m h→callFn (LX (cFk kL Try.prog)) m h [(D.agg [.int .i64 (t).form,.int .i64 (t).n,.bool (t).hid,.str (t).name,slD 2 encL (t).levels,slD 6 encT (t).kids])] (cFk kL Try.prog 70) = .ok (.bool (formedT t.abs)) m h:=rFormed t hs
  unfold checkT fitsT
  rw [f27_eq]; unfold c27; rw [callFn_eq (by rfl)]
  by_cases y:sizeT t.abs≤20000∧highT t.abs≤500
  · rw [decide_eq_true y,if_pos rfl]
    rw [partsV_in (by omega)] at c1
    have y1:¬ ((sizeT t.abs:Int) > 20000):=by omega
    have y2:¬ ((highT t.abs:Int) > 500):=by omega
    cases hb:formedT t.abs with
    | true =>
      rw [hb] at c2
      simp (disch:=first|assumption|omega|(simp (disch:=first|assumption|omega) only [sB,reduceAdd,reduceLT,reduceLeDiff,reduceEqDiff,reduceMul,↓reduceIte,hG,gd_tm];done)|fail) only [sA,↓reduceIte,reduceLT,reduceEqDiff,reduceAdd,reduceLeDiff,c1,c2,y1,y2,hG,gd_tm]
    | false =>
      rw [hb] at c2
      rw [if_neg (by decide)]
      simp (disch:=first|assumption|omega|(simp (disch:=first|assumption|omega) only [sB,reduceAdd,reduceLT,reduceLeDiff,reduceEqDiff,reduceMul,↓reduceIte,hG,gd_tm];done)|fail) only [sA,↓reduceIte,reduceLT,reduceEqDiff,reduceAdd,reduceLeDiff,c1,c2,y1,y2,hG,gd_tm]
  · rw [decide_eq_false y,if_neg (by decide)]
    rw [partsV_out (by omega)] at c1
    simp (disch:=first|assumption|omega|(simp (disch:=first|assumption|omega) only [sB,reduceAdd,reduceLT,reduceLeDiff,reduceEqDiff,reduceMul,↓reduceIte,hG,gd_tm];done)|fail) only [sA,↓reduceIte,reduceLT,reduceEqDiff,reduceAdd,reduceLeDiff,c1,hG,gd_tm]
def sizeV (t:Trm):Int:=if checkT t=0 then (sizeT t:Int) else 0
end Go.Proofs.Ytdijijblccmfbaa
