/- Cleaned terms, in plain Lean. No condition. -/
import Derived.Test.YtpbpmpabndgeeaaLP
set_option linter.unusedSimpArgs false
set_option linter.unusedVariables false
namespace Go.Proofs.Ytpbpmpabndgeeaa
open Go

inductive Trm where
  | mk (form n:Int) (hid:Bool) (name:List Nat) (levels:List Lev) (kids:List Trm)
def Trm.form:Trm→Int | .mk f _ _ _ _ _=>f
def Trm.n:Trm→Int | .mk _ n _ _ _ _=>n
def Trm.hid:Trm→Bool | .mk _ _ b _ _ _=>b
def Trm.name:Trm→List Nat | .mk _ _ _ s _ _=>s
def Trm.levels:Trm→List Lev | .mk _ _ _ _ l _=>l
def Trm.kids:Trm→List Trm | .mk _ _ _ _ _ k=>k
inductive Tm where
  | mk (form n:Int) (hid:Bool) (name:List Nat) (levels:Sl SLev) (nil full:Bool) (kids spare:List Tm)
def Tm.form:Tm→Int | .mk f _ _ _ _ _ _ _ _=>f
def Tm.n:Tm→Int | .mk _ n _ _ _ _ _ _ _=>n
def Tm.hid:Tm→Bool | .mk _ _ b _ _ _ _ _ _=>b
def Tm.name:Tm→List Nat | .mk _ _ _ s _ _ _ _ _=>s
def Tm.levels:Tm→Sl SLev | .mk _ _ _ _ l _ _ _ _=>l
def Tm.kids:Tm→Sl Tm | .mk _ _ _ _ _ a b ks sp=>⟨a,b,ks,sp⟩
mutual
noncomputable def encT:Tm→D
  | .mk f n hid nm ls nil full ks sp => .agg [.int .i64 f,.int .i64 n,.bool hid,.str nm,slD 2 encL ls,bif nil && ks.isEmpty && sp.isEmpty then .nils else .sl 6 (encTs ks) (encTs sp) full]
noncomputable def encTs:List Tm→List D
  | []=>[]
  | p::t=>encT p::encTs t
end
mutual
def Tm.abs:Tm→Trm
  | .mk f n hid nm ls _ _ ks _ => .mk f n hid nm (ls.el.map SLev.lev) (absS ks)
def absS:List Tm→List Trm
  | []=>[]
  | p::t=>p.abs::absS t
end
theorem encTs_eq (l:List Tm):encTs l=l.map encT:=by
  induction l with
  | nil=>rfl
  | cons p t ih=>rw [encTs,ih]; rfl
theorem encT_eq (t:Tm):encT t = .agg [.int .i64 t.form,.int .i64 t.n,.bool t.hid,.str t.name,slD 2 encL t.levels,slD 6 encT t.kids]:=by
  cases t with
  | mk f n hid nm ls nil full ks sp=>rw [encT,encTs_eq,encTs_eq]; rfl
theorem absS_eq (l:List Tm):absS l=l.map Tm.abs:=by
  induction l with
  | nil=>rfl
  | cons p t ih=>rw [absS,ih]; rfl
theorem abs_eq (t:Tm):t.abs = .mk t.form t.n t.hid t.name (t.levels.el.map SLev.lev) (t.kids.el.map Tm.abs):=by
  cases t with
  | mk f n hid nm ls nil full ks sp=>rw [Tm.abs,absS_eq]; rfl
theorem abs_form (t:Tm):t.abs.form=t.form:=by rw [abs_eq]; rfl
theorem abs_n (t:Tm):t.abs.n=t.n:=by rw [abs_eq]; rfl
theorem abs_hid (t:Tm):t.abs.hid=t.hid:=by rw [abs_eq]; rfl
theorem abs_name (t:Tm):t.abs.name=t.name:=by rw [abs_eq]; rfl
theorem abs_levels (t:Tm):t.abs.levels=t.levels.el.map SLev.lev:=by rw [abs_eq]; rfl
theorem abs_kids (t:Tm):t.abs.kids=t.kids.el.map Tm.abs:=by rw [abs_eq]; rfl
mutual
theorem Trm.ind {P:Trm→Prop} (h:∀ t,(∀ k,k∈t.kids→P k)→P t):∀ t:Trm,P t
  | .mk _ _ _ _ _ ks=>h _ (fun k hk=>Trm.inds h ks k hk)
theorem Trm.inds {P:Trm→Prop} (h:∀ t,(∀ k,k∈t.kids→P k)→P t):∀ (ks:List Trm) (k:Trm),k∈ks→P k
  | [],_,hk=>by cases hk
  | a::t,k,hk=>by
    rcases List.mem_cons.1 hk with e | hk
    · rw [e]; exact Trm.ind h a
    · exact Trm.inds h t k hk
end
mutual
theorem Tm.ind {P:Tm→Prop} (h:∀ t,(∀ k,k∈t.kids.el→P k)→P t):∀ t:Tm,P t
  | .mk _ _ _ _ _ _ _ ks _=>h _ (fun k hk=>Tm.inds h ks k hk)
theorem Tm.inds {P:Tm→Prop} (h:∀ t,(∀ k,k∈t.kids.el→P k)→P t):∀ (ks:List Tm) (k:Tm),k∈ks→P k
  | [],_,hk=>by cases hk
  | a::t,k,hk=>by
    rcases List.mem_cons.1 hk with e | hk
    · rw [e]; exact Tm.ind h a
    · exact Tm.inds h t k hk
end
mutual
def sizeT:Trm→Nat
  | .mk _ _ _ _ _ ks=>1+sizeTs ks
def sizeTs:List Trm→Nat
  | []=>0
  | p::t=>sizeT p+sizeTs t
end
mutual
def highT:Trm→Nat
  | .mk _ _ _ _ _ ks=>1+highTs ks
def highTs:List Trm→Nat
  | []=>0
  | p::t=>max (highT p) (highTs t)
end
theorem sizeT_eq (t:Trm):sizeT t=1+sizeTs t.kids:=by cases t; rw [sizeT]; rfl
theorem highT_eq (t:Trm):highT t=1+highTs t.kids:=by cases t; rw [highT]; rfl
theorem sizeTs_nil:sizeTs []=0:=by rw [sizeTs]
theorem highTs_nil:highTs []=0:=by rw [highTs]
theorem sizeTs_cons (p:Trm) (t:List Trm):sizeTs (p::t)=sizeT p+sizeTs t:=by rw [sizeTs]
theorem highTs_cons (p:Trm) (t:List Trm):highTs (p::t)=max (highT p) (highTs t):=by rw [highTs]
theorem sizeTs_app (l m:List Trm):sizeTs (l++m)=sizeTs l+sizeTs m:=by
  induction l with
  | nil=>rw [List.nil_append,sizeTs_nil]; omega
  | cons p t ih=>rw [List.cons_append,sizeTs_cons,sizeTs_cons,ih]; omega
theorem sizeT_pos (t:Trm):1≤sizeT t:=by rw [sizeT_eq]; omega
theorem highT_pos (t:Trm):1≤highT t:=by rw [highT_eq]; omega
theorem sizeTs_len (l:List Trm):l.length≤sizeTs l:=by
  induction l with
  | nil=>exact Nat.zero_le _
  | cons p t ih=>have:=sizeT_pos p; rw [sizeTs_cons,List.length_cons]; omega
theorem sizeTs_mem {l:List Trm} {k:Trm} (h:k∈l):sizeT k≤sizeTs l:=by
  induction l with
  | nil=>cases h
  | cons p t ih =>
    rw [sizeTs_cons]
    rcases List.mem_cons.1 h with rfl | h
    · omega
    · have:=ih h; omega
theorem highTs_mem {l:List Trm} {k:Trm} (h:k∈l):highT k≤highTs l:=by
  induction l with
  | nil=>cases h
  | cons p t ih =>
    rw [highTs_cons]
    rcases List.mem_cons.1 h with rfl | h
    · omega
    · have:=ih h; omega
def kidsN (f:Int):Int:=if f=1∨f=2∨f=10∨f=11 then 0 else if f=8∨f=9 then 1 else if f=7 then 3 else if f=3∨f=4∨f=5∨f=6 then 2 else -1
def bindsN (f:Int):Bool:=decide (f=3∨f=4∨f=6)
def Lev.canon (l:Lev):Bool:=l.right && (decide (l.norm.n=l.n) && decide (l.norm.v=l.v))
def partOk (t:Trm):Bool :=
  decide (kidsN t.form = (t.kids.length:Int)) &&
  (if t.form=1∨t.form=11 then decide (0≤t.n∧t.n≤1073741824)
  else if t.form=7 then decide (t.kids.head?.map Trm.form=some 6)
  else if t.form=2 then decide (t.levels.length=1) && t.levels.all Lev.canon
  else if t.form=10 then decide (t.name≠[]∧t.name.length≤60) && t.levels.all Lev.canon
  else true)
mutual
def allT (p:Trm→Bool):Trm→Bool
  | .mk f n hid nm ls ks=>p (.mk f n hid nm ls ks) && allTs p ks
def allTs (p:Trm→Bool):List Trm→Bool
  | []=>true
  | k::t=>allT p k && allTs p t
end
theorem allT_eq (p:Trm→Bool) (t:Trm):allT p t = (p t && allTs p t.kids):=by cases t; rw [allT]; rfl
theorem allTs_eq (p:Trm→Bool) (l:List Trm):allTs p l=l.all (allT p):=by
  induction l with
  | nil=>rw [allTs]; rfl
  | cons k t ih=>rw [allTs,ih]; rfl
def formedT (t:Trm):Bool:=allT partOk t
theorem formedT_eq (t:Trm):formedT t = (partOk t && t.kids.all formedT):=by
  show allT partOk t=_
  rw [allT_eq,allTs_eq]; rfl
def fitsT (t:Trm):Bool:=decide (sizeT t≤20000∧highT t≤500)
def checkT (t:Trm):Int:=if fitsT t then (if formedT t then 0 else 10) else 2
def goodT (t:Trm):Bool:=fitsT t && formedT t
def saneT (t:Trm):Bool:=allT (fun t=>decide (t.levels.length≤9223372036854775807∧t.kids.length≤9223372036854775807)) t
theorem sane_eq (t:Trm):saneT t=true ↔ (t.levels.length≤9223372036854775807∧t.kids.length≤9223372036854775807)∧∀ k,k∈t.kids→saneT k=true:=by
  show allT _ t=true↔_
  rw [allT_eq,allTs_eq,Bool.and_eq_true,decide_eq_true_iff,List.all_eq_true]
  rfl
theorem sane_tm {t:Tm} (h:saneT t.abs=true) : (t.levels.el.length≤9223372036854775807∧t.kids.el.length≤9223372036854775807)∧∀ k,k∈t.kids.el→saneT k.abs=true:=by
  obtain ⟨h1,h2⟩ := (sane_eq _).1 h
  rw [abs_levels,abs_kids,List.length_map,List.length_map] at h1
  rw [abs_kids] at h2
  exact ⟨h1,fun k hk=>h2 _ (List.mem_map.2 ⟨k,hk,rfl⟩)⟩
theorem part_len {t:Trm} (h:partOk t=true):kidsN t.form = (t.kids.length:Int):=by
  unfold partOk at h
  rw [Bool.and_eq_true,decide_eq_true_iff] at h
  exact h.1
theorem size_kid {t k:Tm} (h:k∈t.kids.el):sizeT k.abs < sizeT t.abs:=by
  have:=sizeTs_mem (l:=t.abs.kids) (k:=k.abs) (by rw [abs_kids]; exact List.mem_map.2 ⟨k,h,rfl⟩)
  rw [sizeT_eq t.abs]
  omega
theorem high_kid {t k:Tm} (h:k∈t.kids.el):highT k.abs < highT t.abs:=by
  have:=highTs_mem (l:=t.abs.kids) (k:=k.abs) (by rw [abs_kids]; exact List.mem_map.2 ⟨k,h,rfl⟩)
  rw [highT_eq t.abs]
  omega
theorem kids_size (t:Tm):t.kids.el.length < sizeT t.abs:=by
  have:=sizeTs_len t.abs.kids
  rw [abs_kids,List.length_map] at this
  rw [sizeT_eq,abs_kids]
  omega
theorem formed_tm (t:Tm):formedT t.abs = (partOk t.abs && t.kids.el.all fun k=>formedT k.abs):=by
  rw [formedT_eq,abs_kids,List.all_map]; rfl
theorem part_tm (t:Tm):partOk t.abs = (decide (kidsN t.form = (t.kids.el.length:Int)) &&
  (if t.form=1∨t.form=11 then decide (0≤t.n∧t.n≤1073741824)
  else if t.form=7 then decide (t.kids.el.head?.map Tm.form=some 6)
  else if t.form=2 then decide (t.levels.el.length=1) && t.levels.el.all (fun l=>l.lev.canon)
  else if t.form=10 then decide (t.name≠[]∧t.name.length≤60) && t.levels.el.all (fun l=>l.lev.canon)
  else true)):=by
  unfold partOk
  rw [abs_form,abs_n,abs_name,abs_levels,abs_kids,List.length_map,List.length_map,List.all_map]
  have : ((t.kids.el.map Tm.abs).head?.map Trm.form)=t.kids.el.head?.map Tm.form:=by
    cases t.kids.el with
    | nil=>rfl
    | cons k l=>simp [abs_form]
  rw [this]
  rfl
end Go.Proofs.Ytpbpmpabndgeeaa
set_option linter.unusedSimpArgs false
set_option linter.unusedVariables false
namespace Go.Proofs.Ytpbpmpabndgeeaa
open Go

def undr (f:Int) (i:Nat) (d:Int):Int:=if i=1∧bindsN f=true then d+1 else d
mutual
def cleanT:Trm→Trm
  | .mk f n h nm ls ks => .mk f (if f=1∨f=11 then n else 0) (if f=3∨f=4∨f=5 then h else false) (if f=10 then nm else []) (if f=2∨f=10 then ls else []) (cleanTs ks)
def cleanTs:List Trm→List Trm
  | []=>[]
  | k::t=>cleanT k::cleanTs t
end
mutual
def rlift (b:Int):Trm→Int→Trm
  | .mk f n h nm ls ks,a=>if f=1∧a≤n then .mk f (n+b) h nm ls ks else .mk f n h nm ls (rlifts b f 0 ks a)
def rlifts (b f:Int) (i:Nat):List Trm→Int→List Trm
  | [],_=>[]
  | k::t,a=>rlift b k (undr f i a)::rlifts b f (i+1) t a
end
mutual
def rsub (p:Int) (s:Trm):Trm→Int→Trm
  | .mk f n h nm ls ks,d=>if f=1 then (if n=p+d then rlift d s 0 else if p+d < n then .mk f (n - 1) h nm ls ks else .mk f n h nm ls ks) else .mk f n h nm ls (rsubs p s f 0 ks d)
def rsubs (p:Int) (s:Trm) (f:Int) (i:Nat):List Trm→Int→List Trm
  | [],_=>[]
  | k::t,d=>rsub p s k (undr f i d)::rsubs p s f (i+1) t d
end
def leafT (t:Trm):Bool:=allT (fun t=>!decide (t.form=1) || t.kids.isEmpty) t
theorem leaf_eq (f n:Int) (h:Bool) (nm:List Nat) (ls:List Lev) (ks:List Trm):leafT (.mk f n h nm ls ks)=true ↔ (f=1→ks=[])∧∀ k,k∈ks→leafT k=true:=by
  unfold leafT
  rw [allT_eq,allTs_eq,Bool.and_eq_true,List.all_eq_true]
  show ((!decide (f=1) || ks.isEmpty)=true)∧_↔_
  refine and_congr ?_ Iff.rfl
  by_cases hf:f=1 <;> simp [hf]
theorem undr_add (f:Int) (i:Nat) (d e:Int):undr f i (d+e)=undr f i d+e:=by unfold undr; split <;> omega
theorem undr_low (f:Int) (i:Nat) (d:Int):d≤undr f i d:=by unfold undr; split <;> omega

end Go.Proofs.Ytpbpmpabndgeeaa
set_option linter.unusedSimpArgs false
set_option linter.unusedVariables false
namespace Go.Proofs.Ytpbpmpabndgeeaa
open Go

theorem cleanTs_eq (l:List Trm):cleanTs l=l.map cleanT:=by
  induction l with
  | nil=>rw [cleanTs]; rfl
  | cons k t ih=>rw [cleanTs,ih]; rfl
theorem clean_eq (f n:Int) (h:Bool) (nm:List Nat) (ls:List Lev) (ks:List Trm):cleanT (.mk f n h nm ls ks) = .mk f (if f=1∨f=11 then n else 0) (if f=3∨f=4∨f=5 then h else false) (if f=10 then nm else []) (if f=2∨f=10 then ls else []) (ks.map cleanT):=by rw [cleanT,cleanTs_eq]
theorem clean_form (t:Trm) : (cleanT t).form=t.form:=by cases t; rw [clean_eq]; rfl
theorem clean_kids (t:Trm) : (cleanT t).kids=t.kids.map cleanT:=by cases t; rw [clean_eq]; rfl
theorem clean_size:∀ t:Trm,sizeT (cleanT t)=sizeT t:=by
  refine Trm.ind ?_
  intro t ih
  rw [sizeT_eq,sizeT_eq,clean_kids]
  congr 1
  have key:∀ l:List Trm,(∀ k,k∈l→k∈t.kids)→sizeTs (l.map cleanT)=sizeTs l:=by
    intro l
    induction l with
    | nil=>intro _; rfl
    | cons k l ihl=>intro hm; rw [List.map_cons,sizeTs_cons,sizeTs_cons,ih k (hm k (by simp)),ihl (fun q hq=>hm q (by simp [hq]))]
  exact key _ fun _ h=>h
theorem clean_high:∀ t:Trm,highT (cleanT t)=highT t:=by
  refine Trm.ind ?_
  intro t ih
  rw [highT_eq,highT_eq,clean_kids]
  congr 1
  have key:∀ l:List Trm,(∀ k,k∈l→k∈t.kids)→highTs (l.map cleanT)=highTs l:=by
    intro l
    induction l with
    | nil=>intro _; rfl
    | cons k l ihl=>intro hm; rw [List.map_cons,highTs_cons,highTs_cons,ih k (hm k (by simp)),ihl (fun q hq=>hm q (by simp [hq]))]
  exact key _ fun _ h=>h
theorem clean_part (t:Trm):partOk (cleanT t)=partOk t:=by
  obtain ⟨f,n,h,nm,ls,ks⟩:=t
  rw [clean_eq]
  unfold partOk
  show (decide (kidsN f = ((ks.map cleanT).length:Int)) && (if f=1∨f=11 then decide (0 ≤ (if f=1∨f=11 then n else 0) ∧ (if f=1∨f=11 then n else 0)≤1073741824) else if f=7 then decide ((ks.map cleanT).head?.map Trm.form=some 6) else if f=2 then decide ((if f=2∨f=10 then ls else []).length=1) && (if f=2∨f=10 then ls else []).all Lev.canon else if f=10 then decide ((if f=10 then nm else [])≠[] ∧ (if f=10 then nm else []).length≤60) && (if f=2∨f=10 then ls else []).all Lev.canon else true)) =
    (decide (kidsN f = (ks.length:Int)) && (if f=1∨f=11 then decide (0≤n∧n≤1073741824) else if f=7 then decide (ks.head?.map Trm.form=some 6) else if f=2 then decide (ls.length=1) && ls.all Lev.canon else if f=10 then decide (nm≠[]∧nm.length≤60) && ls.all Lev.canon else true))
  rw [List.length_map]
  congr 1
  by_cases h1:f=1∨f=11
  · rw [if_pos h1,if_pos h1,if_pos h1]
  · rw [if_neg h1,if_neg h1]
    by_cases h2:f=7
    · rw [if_pos h2,if_pos h2]
      cases ks with
      | nil=>rfl
      | cons k t=>rw [List.map_cons,List.head?_cons,List.head?_cons,Option.map_some,Option.map_some,clean_form]
    · rw [if_neg h2,if_neg h2]
      by_cases h3:f=2
      · rw [if_pos h3,if_pos h3,if_pos (Or.inl h3)]
      · rw [if_neg h3,if_neg h3]
        by_cases h4:f=10
        · rw [if_pos h4,if_pos h4,if_pos h4,if_pos (Or.inr h4)]
        · rw [if_neg h4,if_neg h4]
theorem formed_leaf:∀ t:Trm,formedT t=true→leafT t=true:=by
  refine Trm.ind ?_
  intro t ih h
  rw [formedT_eq,Bool.and_eq_true,List.all_eq_true] at h
  obtain ⟨f,n,hd,nm,ls,ks⟩:=t
  refine (leaf_eq ..).2 ⟨fun hf=>?_,fun k hk=>ih k hk (h.2 k hk)⟩
  have:=part_len h.1
  replace this:kidsN f = (ks.length:Int):=this
  rw [hf,show kidsN 1=0 from rfl] at this
  exact List.length_eq_zero_iff.1 (by omega)
end Go.Proofs.Ytpbpmpabndgeeaa
