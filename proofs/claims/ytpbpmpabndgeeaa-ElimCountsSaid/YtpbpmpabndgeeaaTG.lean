/- The reference's check of a term. No condition but lengths. -/
import Derived.Test.YtpbpmpabndgeeaaTD
import Derived.Test.YtpbpmpabndgeeaaLC
import Derived.Test.YtpbpmpabndgeeaaLF
import Derived.Test.YtpbpmpabndgeeaaLEQ
import Derived.Test.YtpbpmpabndgeeaaCT

/- Levels within terms: which are right and canonical; small functions on forms. No condition but lengths. -/
set_option linter.unusedSimpArgs false
set_option linter.unusedVariables false
namespace Go.Proofs.Ytpbpmpabndgeeaa
open Go
open Nat (reduceAdd reduceLT reduceLeDiff reduceEqDiff reduceMul)

def Gd (m:Nat) (h:Hps):Prop:=∀ k,m≤k→GoodAt k h
theorem gd_nil {m:Nat}:Gd m []=True:=eqOf (propext ⟨fun _=>trivial,fun _ _ _=>good_nil⟩)
theorem gd_flat {m r k:Nat} {d:D} {t:Hps} (hd:flat d=true) (h:r < m):Gd m ((r,.row k [d])::t)=Gd m t:=propext ⟨fun H k hk => (good_cons.1 (H k hk)).2.2,fun H k hk=>good_cons.2 ⟨by omega,lowO_one (low_flat hd),H k hk⟩⟩
theorem gd_lev {m r k:Nat} {N:Int} {s:Sl LV} {t:Hps} (h:r < m):Gd m ((r,.row k [(D.agg [.int .i64 (N),slD 2 encV (s)])])::t)=Gd m t:=gd_flat (flatL ⟨N,s⟩) h
theorem gd_zero {m r k:Nat} {t:Hps} (h:r < m):Gd m ((r,.row k [.agg [.int .i64 0,.nils]])::t)=Gd m t:=gd_flat rfl h
theorem flatT (t:Tm):flat (encT t)=true:=by rw [encT_eq,flat_agg]; have hb:flat1 (.bool t.hid)=true:=rfl; simp [flat1_slD,flat1_int,flat1_str,hb]
theorem flatTA (t:Tm):flat (D.agg [.int .i64 (t).form,.int .i64 (t).n,.bool (t).hid,.str (t).name,slD 2 encL (t).levels,slD 6 encT (t).kids])=true:=by rw [← encT_eq]; exact flatT t
theorem gd_tm {m r k:Nat} {t:Tm} {g:Hps} (h:r < m):Gd m ((r,.row k [(D.agg [.int .i64 (t).form,.int .i64 (t).n,.bool (t).hid,.str (t).name,slD 2 encL (t).levels,slD 6 encT (t).kids])])::g)=Gd m g:=gd_flat (flatTA t) h
theorem gd_zt {m r k:Nat} {g:Hps} (h:r < m):Gd m ((r,.row k [(D.agg [.int .i64 0,.int .i64 0,.bool false,.str [],.nils,.nils])])::g)=Gd m g:=gd_flat rfl h
theorem keys_gd {m:Nat} {h:Hps} (hg:Gd m h):keysFrom m h=[]:=keys_low (hg m (Nat.le_refl _))
theorem Gd.mono {m k:Nat} {h:Hps} (H:Gd m h) (hk:m≤k):Gd k h:=fun j hj=>H j (Nat.le_trans hk hj)

theorem len_str {n:Nat} {h:Hps} {a:List Nat}:lenD n h .str (.str a) = .ok (.int .i64 (a.length:Nat)) n h:=by
  show Rd.ok (.int .i64 (.ofNat (lenN a))) n h=_
  rw [lenN_eq]; rfl
theorem str_neq {a b:List Nat}:binD .neq (.str a) (.str b) = .bool (!decide (a=b)):=by
  show D.bool (Bool.not (eqN a b))=_
  rw [eqN_eq]
  by_cases h:a=b
  · rw [decide_eq_true h,h,beq_self_eq_true]
  · rw [decide_eq_false h,beq_eq_false_iff_ne.2 h]
def Sl.tight {α:Type} (s:Sl α):Sl α:=⟨s.nil && s.el.isEmpty && s.sp.isEmpty,true,s.el,[]⟩
noncomputable def slc3 (n:Nat) (h:Hps) (k:Nat) (x u m:D):Rd:=match x with
  | .sl k' es sp _=>ifR (Nat.beq k k') (natR (fun u=>natR (fun m=>slL3 n h k es sp 0 u m) m) u)
  | .ms k' r off len _=>ifR (Nat.beq k k') (natR (fun u=>natR (fun m=>slM3 n h k r off len 0 u m) m) u)
  | .nils=>natR (fun u=>natR (fun m=>slN3 n h 0 u m) m) u
  | _ => .bad
theorem slice3_eq {n k:Nat} {h:Hps} {env:Tr} {x:D} {u m:Opd}:sliceD n h k env x none (some u) (some m)=slc3 n h k x (ev env u) (ev env m):=by cases x <;> rfl
theorem slc3_slD {α:Type} {enc:α→D} {n k:Nat} {h:Hps} {s:Sl α} {p q:IntKind}:slc3 n h k (slD k enc s) (.int p (s.el.length:Nat)) (.int q (s.el.length:Nat)) = .ok (slD k enc s.tight) n h:=by
  unfold slD
  cases hs : (s.nil && s.el.isEmpty && s.sp.isEmpty) with
  | true =>
    have h2:=hs
    simp only [Bool.and_eq_true,List.isEmpty_iff] at h2
    rw [h2.1.2]
    have : (s.tight.nil && s.tight.el.isEmpty && s.tight.sp.isEmpty)=true:=by
      show ((s.nil && s.el.isEmpty && s.sp.isEmpty) && s.el.isEmpty && true)=true
      rw [hs,h2.1.2]; rfl
    rw [this]
    rfl
  | false =>
    have : (s.tight.nil && s.tight.el.isEmpty && s.tight.sp.isEmpty)=false:=by
      show ((s.nil && s.el.isEmpty && s.sp.isEmpty) && s.el.isEmpty && true)=false
      rw [hs]; rfl
    rw [this]
    show ifR (Nat.beq k k) (slL3 n h k (s.el.map enc) (s.sp.map enc) 0 s.el.length s.el.length) = .ok (.sl k (s.el.map enc) [] true) n h
    rw [Nat.beq_refl,ifR_true]
    show ifR (Bool.and (Nat.ble 0 s.el.length) (Bool.and (Nat.ble s.el.length s.el.length) (Nat.ble s.el.length (lenL (s.el.map enc)+lenL (s.sp.map enc))))) (.ok (.sl k (takeL (s.el.length - 0) (dropL 0 (appL (s.el.map enc) (s.sp.map enc)))) (dropL s.el.length (takeL s.el.length (appL (s.el.map enc) (s.sp.map enc)))) (Nat.beq s.el.length s.el.length)) n h)=_
    rw [lenL_eq,lenL_eq,List.length_map,List.length_map,ble_iff,ble_iff,ble_iff,decide_eq_true (Nat.zero_le _),decide_eq_true (Nat.le_refl _),decide_eq_true (Nat.le_add_right _ _),Nat.beq_refl,appL_eq,takeL_eq,takeL_eq,dropL_eq,dropL_eq,List.drop_zero,Nat.sub_zero]
    have e1 : ((s.el.map enc) ++ (s.sp.map enc)).take s.el.length=s.el.map enc:=by
      have:=List.take_left (l₁:=s.el.map enc) (l₂:=s.sp.map enc)
      rwa [List.length_map] at this
    rw [e1,List.drop_of_length_le (by rw [List.length_map]; exact Nat.le_refl _)]
    rfl
theorem tight_el {α:Type} {s:Sl α}:s.tight.el=s.el:=rfl

theorem pKids (n:Nat) (h:Hps) (hg:Gd n h) (f:Int):callFn (LX (cF Try.prog)) n h [.int .i64 f] (cF Try.prog 84) = .ok (.int .i64 (kidsN f)) n h:=by
  have hgn:=hg n (Nat.le_refl _)
  rw [f84_eq]; unfold c84; rw [callFn_eq (by rfl)]
  by_cases h1:f=1
  · subst h1; rw [show kidsN 1=0 from rfl]; simp (disch:=first|assumption|omega|(simp (disch:=first|assumption|omega) only [sB,reduceAdd,reduceLT,reduceLeDiff,reduceEqDiff,reduceMul,↓reduceIte];done)|fail) only [sA,↓reduceIte,reduceLT,reduceEqDiff,reduceAdd,reduceLeDiff]
  by_cases h2:f=2
  · subst h2; rw [show kidsN 2=0 from rfl]; simp (disch:=first|assumption|omega|(simp (disch:=first|assumption|omega) only [sB,reduceAdd,reduceLT,reduceLeDiff,reduceEqDiff,reduceMul,↓reduceIte];done)|fail) only [sA,↓reduceIte,reduceLT,reduceEqDiff,reduceAdd,reduceLeDiff]
  by_cases h10:f=10
  · subst h10; rw [show kidsN 10=0 from rfl]; simp (disch:=first|assumption|omega|(simp (disch:=first|assumption|omega) only [sB,reduceAdd,reduceLT,reduceLeDiff,reduceEqDiff,reduceMul,↓reduceIte];done)|fail) only [sA,↓reduceIte,reduceLT,reduceEqDiff,reduceAdd,reduceLeDiff]
  by_cases h11:f=11
  · subst h11; rw [show kidsN 11=0 from rfl]; simp (disch:=first|assumption|omega|(simp (disch:=first|assumption|omega) only [sB,reduceAdd,reduceLT,reduceLeDiff,reduceEqDiff,reduceMul,↓reduceIte];done)|fail) only [sA,↓reduceIte,reduceLT,reduceEqDiff,reduceAdd,reduceLeDiff]
  by_cases h8:f=8
  · subst h8; rw [show kidsN 8=1 from rfl]; simp (disch:=first|assumption|omega|(simp (disch:=first|assumption|omega) only [sB,reduceAdd,reduceLT,reduceLeDiff,reduceEqDiff,reduceMul,↓reduceIte];done)|fail) only [sA,↓reduceIte,reduceLT,reduceEqDiff,reduceAdd,reduceLeDiff]
  by_cases h9:f=9
  · subst h9; rw [show kidsN 9=1 from rfl]; simp (disch:=first|assumption|omega|(simp (disch:=first|assumption|omega) only [sB,reduceAdd,reduceLT,reduceLeDiff,reduceEqDiff,reduceMul,↓reduceIte];done)|fail) only [sA,↓reduceIte,reduceLT,reduceEqDiff,reduceAdd,reduceLeDiff]
  by_cases h7:f=7
  · subst h7; rw [show kidsN 7=3 from rfl]; simp (disch:=first|assumption|omega|(simp (disch:=first|assumption|omega) only [sB,reduceAdd,reduceLT,reduceLeDiff,reduceEqDiff,reduceMul,↓reduceIte];done)|fail) only [sA,↓reduceIte,reduceLT,reduceEqDiff,reduceAdd,reduceLeDiff]
  by_cases h3:f=3
  · subst h3; rw [show kidsN 3=2 from rfl]; simp (disch:=first|assumption|omega|(simp (disch:=first|assumption|omega) only [sB,reduceAdd,reduceLT,reduceLeDiff,reduceEqDiff,reduceMul,↓reduceIte];done)|fail) only [sA,↓reduceIte,reduceLT,reduceEqDiff,reduceAdd,reduceLeDiff]
  by_cases h4:f=4
  · subst h4; rw [show kidsN 4=2 from rfl]; simp (disch:=first|assumption|omega|(simp (disch:=first|assumption|omega) only [sB,reduceAdd,reduceLT,reduceLeDiff,reduceEqDiff,reduceMul,↓reduceIte];done)|fail) only [sA,↓reduceIte,reduceLT,reduceEqDiff,reduceAdd,reduceLeDiff]
  by_cases h5:f=5
  · subst h5; rw [show kidsN 5=2 from rfl]; simp (disch:=first|assumption|omega|(simp (disch:=first|assumption|omega) only [sB,reduceAdd,reduceLT,reduceLeDiff,reduceEqDiff,reduceMul,↓reduceIte];done)|fail) only [sA,↓reduceIte,reduceLT,reduceEqDiff,reduceAdd,reduceLeDiff]
  by_cases h6:f=6
  · subst h6; rw [show kidsN 6=2 from rfl]; simp (disch:=first|assumption|omega|(simp (disch:=first|assumption|omega) only [sB,reduceAdd,reduceLT,reduceLeDiff,reduceEqDiff,reduceMul,↓reduceIte];done)|fail) only [sA,↓reduceIte,reduceLT,reduceEqDiff,reduceAdd,reduceLeDiff]
  have e:kidsN f = -1:=by unfold kidsN; rw [if_neg (by omega),if_neg (by omega),if_neg (by omega),if_neg (by omega)]
  rw [e]
  simp (disch:=first|assumption|omega|(simp (disch:=first|assumption|omega) only [sB,reduceAdd,reduceLT,reduceLeDiff,reduceEqDiff,reduceMul,↓reduceIte];done)|fail) only [sA,↓reduceIte,reduceLT,reduceEqDiff,reduceAdd,reduceLeDiff,h1,h2,h3,h4,h5,h6,h7,h8,h9,h10,h11]

theorem pCanon (n:Nat) (h:Hps) (hg:Gd n h) (N:Int) (s:Sl LV):callFn (LX (cF Try.prog)) n h [(D.agg [.int .i64 (N),slD 2 encV (s)])] (cF Try.prog 93) = .ok (.bool (Lev.canon ⟨N,s.el⟩)) n h:=by
  have hgn:=hg n (Nat.le_refl _)
  have hG:∀ m,n≤m→Gd m h:=fun m hm=>Gd.mono hg hm
  have c1:∀ m h,Gd m h→callFn (LX (cF Try.prog)) m h [(D.agg [.int .i64 (N),slD 2 encV (s)])] (cF Try.prog 95) = .ok (D.tup [.agg [.int .i64 (Lev.nrm ⟨N,s.el⟩).1.n,slD 2 encV (Sl.app (Lev.nrm ⟨N,s.el⟩).1.v)],.int .i64 (Lev.nrm ⟨N,s.el⟩).2]) m h:=fun m h hg=>lvNormA m h hg N _ _ _ (svV s)
  unfold Lev.canon
  by_cases hr:Lev.right ⟨N,s.el⟩=true
  · simp only [nrm_right hr] at c1
    have h64:s.el.length≤64 := (right_iff.1 hr).2.1
    have hn64 : (Lev.norm ⟨N,s.el⟩).v.length≤s.el.length:=norm_len ⟨N,s.el⟩
    rw [hr,Bool.true_and]
    generalize Lev.norm ⟨N,s.el⟩=M at c1 hn64 ⊢
    obtain ⟨Mn,Mv⟩:=M
    replace hn64:Mv.length≤s.el.length:=hn64
    have c2:∀ m h,Gd m h→callFn (LX (cF Try.prog)) m h [slD 2 encV (Sl.app Mv),slD 2 encV s] (cF Try.prog 86) = .ok (.bool (decide (Mv=s.el))) m h:=fun m h hg=>slEqual m h hg (Sl.app Mv) s (by show Mv.length < _; omega) (by omega)
    show _=Rd.ok (.bool (decide (Mn=N) && decide (Mv=s.el))) n h
    generalize decide (Mv=s.el)=b at c2 ⊢
    rw [f93_eq]; unfold c93; rw [callFn_eq (by rfl)]
    by_cases z1:Mn=N
    · subst z1
      rw [decide_eq_true rfl,Bool.true_and]
      simp (disch:=first|assumption|omega|(simp (disch:=first|assumption|omega) only [sB,reduceAdd,reduceLT,reduceLeDiff,reduceEqDiff,reduceMul,↓reduceIte,hG,gd_lev,gd_zero];done)|fail) only [sA,↓reduceIte,reduceLT,reduceEqDiff,reduceAdd,reduceLeDiff,c1,c2,hG,gd_lev,gd_zero]
    · rw [decide_eq_false z1,Bool.false_and]
      simp (disch:=first|assumption|omega|(simp (disch:=first|assumption|omega) only [sB,reduceAdd,reduceLT,reduceLeDiff,reduceEqDiff,reduceMul,↓reduceIte,hG,gd_lev,gd_zero];done)|fail) only [sA,↓reduceIte,reduceLT,reduceEqDiff,reduceAdd,reduceLeDiff,c1,z1,hG,gd_lev,gd_zero]
  · simp only [nrm_wrong hr] at c1
    rw [show Lev.right ⟨N,s.el⟩=false by cases hx:Lev.right ⟨N,s.el⟩ <;> simp_all,Bool.false_and]
    rw [f93_eq]; unfold c93; rw [callFn_eq (by rfl)]
    simp (disch:=first|assumption|omega|(simp (disch:=first|assumption|omega) only [sB,reduceAdd,reduceLT,reduceLeDiff,reduceEqDiff,reduceMul,↓reduceIte,hG,gd_lev,gd_zero];done)|fail) only [sA,↓reduceIte,reduceLT,reduceEqDiff,reduceAdd,reduceLeDiff,c1,slD_nil,hG,gd_lev,gd_zero]
end Go.Proofs.Ytpbpmpabndgeeaa

/- The reference's check of a term. No condition. -/
namespace Go.Proofs.Ytpbpmpabndgeeaa
open Go
open Nat (reduceAdd reduceLT reduceLeDiff reduceEqDiff reduceMul)

def partsV (t:Trm) (left high:Int):Int×Int:=if (sizeT t:Int)≤left ∧ (highT t:Int)≤high then ((sizeT t:Int),(highT t:Int)) else (1073741824,1073741824)
theorem take_abs {l:List Tm} {i:Nat} (hi:i < l.length) : (l.take (i+1)).map Tm.abs = (l.take i).map Tm.abs++[l[i].abs]:=by
  rw [List.take_succ_eq_append_getElem hi,List.map_append]; rfl
theorem size_take {l:List Tm} {i:Nat} (hi:i < l.length):sizeTs ((l.take (i+1)).map Tm.abs)=sizeTs ((l.take i).map Tm.abs)+sizeT l[i].abs:=by
  rw [take_abs hi,sizeTs_app,sizeTs_cons,sizeTs_nil]; omega
theorem size_take_le (l:List Tm) (i:Nat):sizeTs ((l.take i).map Tm.abs)≤sizeTs (l.map Tm.abs):=by
  have:=sizeTs_app ((l.take i).map Tm.abs) ((l.drop i).map Tm.abs)
  rw [← List.map_append,List.take_append_drop] at this
  omega
theorem size_abs (t:Tm):sizeT t.abs=1+sizeTs (t.kids.el.map Tm.abs):=by rw [sizeT_eq,abs_kids]
theorem high_abs (t:Tm):highT t.abs=1+highTs (t.kids.el.map Tm.abs):=by rw [highT_eq,abs_kids]
end Go.Proofs.Ytpbpmpabndgeeaa

/- The reference's check of a term: its forms; Check,Size. No condition but that rows are not longer than any. -/
namespace Go.Proofs.Ytpbpmpabndgeeaa
open Go
open Nat (reduceAdd reduceLT reduceLeDiff reduceEqDiff reduceMul)

section
variable (n:Nat) (h:Hps) (t:Tm)
end

def sizeV (t:Trm):Int:=if checkT t=0 then (sizeT t:Int) else 0
end Go.Proofs.Ytpbpmpabndgeeaa
