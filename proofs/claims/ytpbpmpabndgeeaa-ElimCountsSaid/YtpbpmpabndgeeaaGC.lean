/- ElimCounts: a method takes a constructor's arguments and a hypothesis for each recursive one; the eliminator takes params, a motive, methods, indices, what is looked at. No condition. -/
import Derived.Test.YtpbpmpabndgeeaaEW
import Derived.Test.YtpbpmpabndgeeaaA38
set_option linter.unusedSimpArgs false
set_option linter.unusedVariables false
namespace Go.Proofs.Ytpbpmpabndgeeaa
open Go
open Nat (reduceAdd reduceLT reduceLeDiff reduceEqDiff reduceMul)

theorem rlifts_len (b f:Int):∀ (ks:List Trm) (i:Nat) (a:Int),(rlifts b f i ks a).length=ks.length
  | [],_,_=>by rw [rlifts]
  | k::t,i,a=>by rw [rlifts,List.length_cons,List.length_cons,rlifts_len b f t]
theorem size_lift (b:Int):∀ t:Trm,∀ a,sizeT (rlift b t a)=sizeT t:=by
  refine Trm.ind ?_
  intro t ih a
  obtain ⟨f,n,hd,nm,ls,ks⟩:=t
  have key:∀ ks':List Trm,(∀ k,k∈ks'→k∈ks)→∀ i a,sizeTs (rlifts b f i ks' a)=sizeTs ks':=by
    intro ks'
    induction ks' with
    | nil=>intro _ i a; rw [rlifts]
    | cons k t ihk=>intro hk i a; rw [rlifts,sizeTs_cons,sizeTs_cons,ih k (hk k (by simp)),ihk (fun x hx=>hk x (by simp [hx]))]
  rw [rlift]
  split
  · rw [sizeT_eq,sizeT_eq]; rfl
  · rw [sizeT_eq,sizeT_eq]
    show 1+sizeTs (rlifts b f 0 ks a)=1+sizeTs ks
    rw [key ks (fun _ h=>h)]
theorem high_lift (b:Int):∀ t:Trm,∀ a,highT (rlift b t a)=highT t:=by
  refine Trm.ind ?_
  intro t ih a
  obtain ⟨f,n,hd,nm,ls,ks⟩:=t
  have key:∀ ks':List Trm,(∀ k,k∈ks'→k∈ks)→∀ i a,highTs (rlifts b f i ks' a)=highTs ks':=by
    intro ks'
    induction ks' with
    | nil=>intro _ i a; rw [rlifts]
    | cons k t ihk=>intro hk i a; rw [rlifts,highTs_cons,highTs_cons,ih k (hk k (by simp)),ihk (fun x hx=>hk x (by simp [hx]))]
  rw [rlift]
  split
  · rw [highT_eq,highT_eq]; rfl
  · rw [highT_eq,highT_eq]
    show 1+highTs (rlifts b f 0 ks a)=1+highTs ks
    rw [key ks (fun _ h=>h)]
def pk (v:Int) (t:Trm):Bool:=partOk t && (!decide (t.form=1) || decide (t.n≤v)) && decide (t.form≠11) && decide (t.levels.length≤1)
def okW (v:Int) (t:Trm):Bool:=allT (pk v) t
theorem okW_eq (v:Int) (t:Trm):okW v t = (pk v t && t.kids.all (okW v)):=by
  unfold okW; rw [allT_eq,allTs_eq]
theorem okW_iff {v:Int} {t:Trm}:okW v t=true ↔ (partOk t=true ∧ (t.form=1→t.n≤v)∧t.form≠11∧t.levels.length≤1)∧∀ k,k∈t.kids→okW v k=true:=by
  rw [okW_eq,Bool.and_eq_true,List.all_eq_true]
  refine and_congr ?_ Iff.rfl
  unfold pk
  rw [Bool.and_eq_true,Bool.and_eq_true,Bool.and_eq_true,decide_eq_true_iff,decide_eq_true_iff,and_assoc,and_assoc]
  refine and_congr Iff.rfl (and_congr ?_ Iff.rfl)
  by_cases e:t.form=1
  · simp [e]
  · simp [e]
theorem okW_formed {v:Int}:∀ t:Trm,okW v t=true→formedT t=true:=by
  refine Trm.ind ?_
  intro t ih h
  obtain ⟨h1,h2⟩:=okW_iff.1 h
  rw [formedT_eq,h1.1,Bool.true_and,List.all_eq_true]
  exact fun k hk=>ih k hk (h2 k hk)
theorem okW_few {v:Int}:∀ t:Trm,okW v t=true→fewT t=true:=by
  refine Trm.ind ?_
  intro t ih h
  obtain ⟨h1,h2⟩:=okW_iff.1 h
  exact (few_eq t).2 ⟨by have:=h1.2.2.2; omega,fun k hk=>ih k hk (h2 k hk)⟩
theorem okW_up {v w:Int} (hv:v≤w):∀ t:Trm,okW v t=true→okW w t=true:=by
  refine Trm.ind ?_
  intro t ih h
  obtain ⟨h1,h2⟩:=okW_iff.1 h
  exact okW_iff.2 ⟨⟨h1.1,fun e=>by have:=h1.2.1 e; omega,h1.2.2⟩,fun k hk=>ih k hk (h2 k hk)⟩
theorem okW_clean {v:Int}:∀ t:Trm,okW v t=true→okW v (cleanT t)=true:=by
  refine Trm.ind ?_
  intro t ih h
  obtain ⟨h1,h2⟩:=okW_iff.1 h
  refine okW_iff.2 ⟨⟨by rw [clean_part]; exact h1.1,fun e=>?_,by rw [clean_form]; exact h1.2.2.1,?_⟩,fun k hk=>?_⟩
  · rw [clean_form] at e
    have:=h1.2.1 e
    obtain ⟨f,n,hd,nm,ls,ks⟩:=t
    have e:f=1:=e
    rw [clean_eq]
    show (if f=1∨f=11 then n else 0)≤v
    rw [if_pos (.inl e)]; exact this
  · obtain ⟨f,n,hd,nm,ls,ks⟩:=t
    rw [clean_eq]
    have:=h1.2.2.2
    show List.length (if f=2∨f=10 then ls else [])≤1
    split
    · exact this
    · simp
  · rw [clean_kids] at hk
    obtain ⟨q,hq,rfl⟩:=List.mem_map.1 hk
    exact ih q hq (h2 q hq)
theorem part_mk (f n:Int) (hd:Bool) (nm:List Nat) (ls:List Lev) (ks:List Trm):partOk (.mk f n hd nm ls ks) = (decide (kidsN f = (ks.length:Int)) &&
  (if f=1∨f=11 then decide (0≤n∧n≤1073741824)
  else if f=7 then decide (ks.head?.map Trm.form=some 6)
  else if f=2 then decide (ls.length=1) && ls.all Lev.canon
  else if f=10 then decide (nm≠[]∧nm.length≤60) && ls.all Lev.canon
  else true)):=rfl
theorem okW_lift {v b:Int} (hb:0≤b) (hv:v+b≤1000000000):∀ t:Trm,okW v t=true→∀ a,okW (v+b) (rlift b t a)=true:=by
  refine Trm.ind ?_
  intro t ih h a
  obtain ⟨⟨h1,h3,h4,h5⟩,h2⟩:=okW_iff.1 h
  obtain ⟨f,n,hd,nm,ls,ks⟩:=t
  replace h3:f=1→n≤v:=h3
  replace h4:f≠11:=h4
  rw [rlift]
  split
  · rename_i e
    refine okW_iff.2 ⟨⟨?_,fun _=>?_,h4,h5⟩,fun k hk=>okW_up (by omega) k (h2 k hk)⟩
    · rw [part_mk] at h1 ⊢
      rw [Bool.and_eq_true] at h1 ⊢
      refine ⟨h1.1,?_⟩
      have h6:=h1.2
      have h3:=h3 e.1
      rw [if_pos (.inl e.1),decide_eq_true_iff] at h6 ⊢
      have h6:0≤n∧n≤1073741824:=h6
      show 0≤n+b∧n+b≤1073741824
      omega
    · have:=h3 e.1
      show n+b≤v+b
      omega
  · refine okW_iff.2 ⟨⟨?_,fun e=>by have:=h3 e; show n≤v+b; omega,h4,h5⟩,fun k hk=>?_⟩
    · rw [part_mk] at h1 ⊢
      rw [Bool.and_eq_true] at h1 ⊢
      refine ⟨?_,?_⟩
      · have:=h1.1
        rw [decide_eq_true_iff] at this ⊢
        show kidsN f = ((rlifts b f 0 ks a).length:Int)
        rw [rlifts_len]; exact this
      · have h6:=h1.2
        by_cases e1:f=1∨f=11
        · rw [if_pos e1] at h6 ⊢; exact h6
        · rw [if_neg e1] at h6 ⊢
          by_cases e7:f=7
          · rw [if_pos e7] at h6 ⊢
            rw [decide_eq_true_iff] at h6 ⊢
            show (rlifts b f 0 ks a).head?.map Trm.form=some 6
            have h6:ks.head?.map Trm.form=some 6:=h6
            cases ks with
            | nil=>cases h6
            | cons k t =>
              rw [rlifts]
              obtain ⟨f',n',hd',nm',ls',ks'⟩:=k
              have h6:some f'=some 6:=h6
              show some (rlift b (.mk f' n' hd' nm' ls' ks') _).form=some 6
              rw [rlift]
              split <;> exact h6
          · rw [if_neg e7] at h6 ⊢; exact h6
    · obtain ⟨q,a',hq,rfl⟩:=rlifts_mem b f ks 0 a k hk
      exact ih q hq (h2 q hq) a'
structure Gt (v:Int) (c g:Nat) (t:Tm):Prop where
  ok:okW v t.abs=true
  size:sizeT t.abs≤c
  high:highT t.abs≤g
theorem Gt.up {v w:Int} {c c' g g':Nat} {t:Tm} (G:Gt v c g t) (h1:v≤w) (h2:c≤c') (h3:g≤g'):Gt w c' g' t:=⟨okW_up h1 _ G.ok,Nat.le_trans G.size h2,Nat.le_trans G.high h3⟩
theorem Gt.formed {v:Int} {c g:Nat} {t:Tm} (G:Gt v c g t):formedT t.abs=true:=okW_formed _ G.ok
theorem Gt.slim {v:Int} {c g:Nat} {t:Tm} (G:Gt v c g t):slimT t.abs=true:=slim_of _ G.formed (okW_few _ G.ok)
theorem Gt.sane {v:Int} {c g:Nat} {t:Tm} (G:Gt v c g t):saneT t.abs=true:=sane_of _ (okW_few _ G.ok) G.slim
theorem Gt.sm {v:Int} {c g:Nat} {t:Tm} (G:Gt v c g t) (hc:c≤100000) (hg:g≤100000):Sm t:=⟨G.slim,Nat.le_trans G.size hc,Nat.le_trans G.high hg⟩
theorem Gt.check {v:Int} {c g:Nat} {t:Tm} (G:Gt v c g t) (hc:c≤20000) (hg:g≤500):checkT t.abs=0:=by
  unfold checkT fitsT
  rw [if_pos (by rw [decide_eq_true_iff]; exact ⟨Nat.le_trans G.size hc,Nat.le_trans G.high hg⟩),if_pos G.formed]
theorem lift_abs {v:Int} {c g:Nat} {t:Tm} (G:Gt v c g t) (hc:c≤100000) (a b:Int) : (liftT a b t).abs=t.abs ∨ (liftT a b t).abs=rlift b (cleanT t.abs) a:=by
  unfold liftT
  by_cases z:a=0∧b=0
  · rw [if_pos z]; exact .inl rfl
  · rw [if_neg z]
    right
    have hl:=formed_leaf _ G.formed
    have h0 := (runM_low (steadyL a b) t 0 1099511627776).1
    have hs:=G.size
    have:=lift_val a b t hl 0 1099511627776 (by omega)
    rw [Int.add_zero] at this
    exact this
theorem copy_abs {v:Int} {c g:Nat} {t:Tm} (G:Gt v c g t) (hc:c≤100000) : (copyT t).abs=cleanT t.abs:=by
  have h0 := (runM_low steadyC t 0 1099511627776).1
  have hs:=G.size
  exact copy_val t (formed_leaf _ G.formed) 0 1099511627776 (by omega)
theorem Gt.lift {v:Int} {c g:Nat} {t:Tm} (G:Gt v c g t) (hc:c≤100000) (a:Int) {b:Int} (hb:0≤b) (hv:v+b≤1000000000):Gt (v+b) c g (liftT a b t):=by
  rcases lift_abs G hc a b with e | e
  · exact ⟨by rw [e]; exact okW_up (by omega) _ G.ok,by rw [e]; exact G.size,by rw [e]; exact G.high⟩
  · exact ⟨by rw [e]; exact okW_lift hb hv _ (okW_clean _ G.ok) a,by rw [e,size_lift,clean_size]; exact G.size,by rw [e,high_lift,clean_high]; exact G.high⟩
theorem Gt.copy {v:Int} {c g:Nat} {t:Tm} (G:Gt v c g t) (hc:c≤100000):Gt v c g (copyT t):=by
  have e:=copy_abs G hc
  exact ⟨by rw [e]; exact okW_clean _ G.ok,by rw [e,clean_size]; exact G.size,by rw [e,clean_high]; exact G.high⟩
theorem g_var {k v:Int} (h0:0≤k) (h1:k≤v) (hv:v≤1000000000):Gt v 1 1 (varT k):=by
  refine ⟨okW_iff.2 ⟨⟨?_,fun _=>h1,by show (1:Int)≠11; omega,Nat.zero_le _⟩,fun k hk=>absurd hk (by show k ∉ ([]:List Trm); simp)⟩,by rw [size_abs]; exact Nat.le_refl _,by rw [high_abs]; exact Nat.le_refl _⟩
  show (decide (kidsN 1=0) && (if (1:Int)=1 ∨ (1:Int)=11 then decide (0≤k∧k≤1073741824) else _))=true
  rw [if_pos (.inl rfl),decide_eq_true (show 0≤k∧k≤1073741824 by omega)]; rfl
theorem g_set {k v:Int} (hc:Lev.canon ⟨k,[]⟩=true):Gt v 1 1 (setT k):=by
  refine ⟨okW_iff.2 ⟨⟨?_,fun e=>absurd e (by show (2:Int)≠1; omega),by show (2:Int)≠11; omega,Nat.le_refl _⟩,fun k hk=>absurd hk (by show k ∉ ([]:List Trm); simp)⟩,by rw [size_abs]; exact Nat.le_refl _,by rw [high_abs]; exact Nat.le_refl _⟩
  show (true && (decide (([⟨k,[]⟩]:List Lev).length=1) && ([⟨k,[]⟩]:List Lev).all Lev.canon))=true
  rw [List.all_cons,List.all_nil,hc]; rfl
theorem g_con {nm:List Nat} {v:Int} (hn:nm≠[]∧nm.length≤60):Gt v 1 1 (conT nm):=by
  refine ⟨okW_iff.2 ⟨⟨?_,fun e=>absurd e (by show (10:Int)≠1; omega),by show (10:Int)≠11; omega,Nat.zero_le _⟩,fun k hk=>absurd hk (by show k ∉ ([]:List Trm); simp)⟩,by rw [size_abs]; exact Nat.le_refl _,by rw [high_abs]; exact Nat.le_refl _⟩
  show (true && (decide (nm≠[]∧nm.length≤60) && true))=true
  rw [decide_eq_true hn]; rfl
theorem g_two {f:Int} (hf:f=3∨f=5) {v:Int} {a b:Tm} {ca ga cb gb:Nat} (A:Gt v ca ga a) (B:Gt v cb gb b):Gt v (1+ca+cb) (1+max ga gb) (two f a b):=by
  refine ⟨okW_iff.2 ⟨⟨?_,fun e=>?_,?_,Nat.zero_le _⟩,fun k hk=>?_⟩,?_,?_⟩
  · rcases hf with rfl | rfl <;> rfl
  · have e:f=1:=e
    omega
  · show f≠11
    omega
  · have hk:k∈[a.abs,b.abs]:=hk
    rcases List.mem_cons.1 hk with rfl | hk
    · exact A.ok
    · rw [List.mem_singleton.1 hk]; exact B.ok
  · rw [size_abs]
    show 1+sizeTs [a.abs,b.abs]≤_
    rw [sizeTs_cons,sizeTs_cons,sizeTs_nil]
    have:=A.size; have:=B.size; omega
  · rw [high_abs]
    show 1+highTs [a.abs,b.abs]≤_
    rw [highTs_cons,highTs_cons,highTs_nil]
    have:=A.high; have:=B.high; omega
theorem g_pis {v:Int} {l:List Tm} {t:Tm} {c g c' g':Nat} (hl:∀ x,x∈l→Gt v c g x) (T:Gt v c' g' t):Gt v (l.length * (1+c)+c') (l.length+max g g') (pisT l t):=by
  induction l with
  | nil=>exact T.up (Int.le_refl _) (by simp) (by simp; omega)
  | cons a l ih =>
    have A:=g_two (.inl rfl) (hl a (by simp)) (ih fun x hx=>hl x (by simp [hx]))
    refine A.up (Int.le_refl _) (by rw [List.length_cons,Nat.succ_mul]; omega) (by rw [List.length_cons]; omega)
theorem g_app {v:Int} {c g:Nat}:∀ {l:List Tm} {t:Tm} {c' g':Nat},(∀ x,x∈l→Gt v c g x)→Gt v c' g' t→Gt v (l.length * (1+c)+c') (l.length+max g g') (appT t l)
  | [],t,c',g',_,T=>T.up (Int.le_refl _) (by simp) (by simp; omega)
  | a::l,t,c',g',hl,T=>by
    have A:=g_app (l:=l) (fun x hx=>hl x (by simp [hx])) (g_two (.inr rfl) T (hl a (by simp)))
    show Gt v _ _ (appT (two 5 t a) l)
    refine A.up (Int.le_refl _) (by rw [List.length_cons,Nat.succ_mul]; omega) (by rw [List.length_cons]; omega)
theorem g_vars {k:Nat} {o v:Int} (ho:0≤o) (hv:o+k≤v) (hb:v≤1000000000):∀ x,x∈varsT k o→Gt v 1 1 x:=fun x hx=>by
  obtain ⟨i,hi,rfl⟩:=List.mem_map.1 hx
  have:=List.mem_range.1 hi
  exact g_var (by omega) (by omega) hb
end Go.Proofs.Ytpbpmpabndgeeaa
set_option linter.unusedSimpArgs false
set_option linter.unusedVariables false
namespace Go.Proofs.Ytpbpmpabndgeeaa
open Go
open Nat (reduceAdd reduceLT reduceLeDiff reduceEqDiff reduceMul)

def npA:Trm→Nat
  | .mk f _ _ _ _ (_::k1::_)=>if f=3 then npA k1+1 else 0
  | _=>0
def naA:Trm→Nat
  | .mk f _ _ _ _ (k0::_::_)=>if f=5 then naA k0+1 else 0
  | _=>0
theorem npi_abs:∀ t:Tm,npi t=npA t.abs
  | .mk f n hd nm ls nl fl [] sp=>by rw [abs_eq]; unfold npi; rw [strp]; rfl; intros; simp_all
  | .mk f n hd nm ls nl fl [k] sp=>by rw [abs_eq]; unfold npi; rw [strp]; rfl; intros; simp_all
  | .mk f n hd nm ls nl fl (k0::k1::ks) sp=>by
    have ih:=npi_abs k1
    rw [abs_eq]
    show npi _=npA (.mk f n hd nm _ (k0.abs::k1.abs::ks.map Tm.abs))
    rw [npA]
    by_cases e:f=3
    · rw [if_pos e,← ih]; unfold npi; rw [strp,if_pos e]; rfl
    · rw [if_neg e]; unfold npi; rw [strp,if_neg e]; rfl
theorem nar_abs:∀ t:Tm,(spn t).2.1.length=naA t.abs
  | .mk f n hd nm ls nl fl [] sp=>by rw [abs_eq,spn]; rfl; intros; simp_all
  | .mk f n hd nm ls nl fl [k] sp=>by rw [abs_eq,spn]; rfl; intros; simp_all
  | .mk f n hd nm ls nl fl (k0::k1::ks) sp=>by
    have ih:=nar_abs k0
    rw [abs_eq]
    show _=naA (.mk f n hd nm _ (k0.abs::k1.abs::ks.map Tm.abs))
    rw [naA]
    by_cases e:f=5
    · rw [if_pos e,← ih,spn,if_pos e]; simp
    · rw [if_neg e,spn,if_neg e]; rfl
theorem npA_clean:∀ t:Trm,npA (cleanT t)=npA t
  | .mk f n hd nm ls []=>by rw [clean_eq]; rfl
  | .mk f n hd nm ls [k]=>by rw [clean_eq]; rfl
  | .mk f n hd nm ls (k0::k1::ks)=>by
    rw [clean_eq,List.map_cons,List.map_cons,npA,npA,npA_clean k1]
theorem naA_clean:∀ t:Trm,naA (cleanT t)=naA t
  | .mk f n hd nm ls []=>by rw [clean_eq]; rfl
  | .mk f n hd nm ls [k]=>by rw [clean_eq]; rfl
  | .mk f n hd nm ls (k0::k1::ks)=>by
    rw [clean_eq,List.map_cons,List.map_cons,naA,naA,naA_clean k0]
theorem naA_lift (b:Int):∀ (t:Trm) (a:Int),naA (rlift b t a)=naA t
  | .mk f n hd nm ls [],a=>by rw [rlift]; split <;> first | rfl | (simp only [rlifts]; rfl)
  | .mk f n hd nm ls [k],a=>by rw [rlift]; split <;> first | rfl | (simp only [rlifts]; rfl)
  | .mk f n hd nm ls (k0::k1::ks),a=>by
    rw [rlift]
    split
    · rw [naA,naA]
    · simp only [rlifts]
      rw [naA,naA,naA_lift b k0]
theorem form_lift (b:Int) (t:Trm) (a:Int) : (rlift b t a).form=t.form:=by
  obtain ⟨f,n,hd,nm,ls,ks⟩:=t
  rw [rlift]; split <;> rfl
theorem strp_pis:∀ {l:List Tm} {t:Tm},t.form≠3→strp (pisT l t) = (l,t)
  | [],_,h=>strp_end h
  | a::l,t,h=>by
    have:=strp_pi (t:=two 3 a (pisT l t)) (k0:=a) (k1:=pisT l t) rfl rfl
    rw [strp_pis h] at this
    exact this
theorem npi_pis:∀ {l:List Tm} {t:Tm},npi (pisT l t)=l.length+npi t
  | [],t=>by simp [pisT]
  | a::l,t=>by
    have e:npi (pisT (a::l) t)=npi (pisT l t)+1:=by
      unfold npi
      rw [show pisT (a::l) t=two 3 a (pisT l t) from rfl,strp_pi (t:=two 3 a (pisT l t)) (k0:=a) (k1:=pisT l t) rfl rfl]; rfl
    rw [e,npi_pis,List.length_cons]; omega
theorem npi_two {a b:Tm}:npi (two 3 a b)=npi b+1:=by
  unfold npi; rw [strp_pi (t:=two 3 a b) (k0:=a) (k1:=b) rfl rfl]; rfl
theorem npi_end {t:Tm} (h:t.form≠3):npi t=0:=by unfold npi; rw [strp_end h]; rfl
theorem spn_appT:∀ {l:List Tm} {t:Tm},(spn (appT t l)).1 = (spn t).1 ∧ (spn (appT t l)).2.1 = (spn t).2.1++l
  | [],t=>by simp [appT]
  | a::l,t=>by
    obtain ⟨h1,h2⟩:=spn_appT (l:=l) (t:=two 5 t a)
    have e:=spn_app (t:=two 5 t a) (k0:=t) (k1:=a) rfl rfl
    show (spn (appT (two 5 t a) l)).1=_ ∧ (spn (appT (two 5 t a) l)).2.1=_
    rw [h1,h2,e]
    simp
theorem form_app {l:List Tm} {t:Tm} : (appT t l).form=t.form ∨ (appT t l).form=5:=by
  induction l generalizing t with
  | nil=>exact .inl rfl
  | cons a l ih =>
    rcases ih (t:=two 5 t a) with h | h
    · exact .inr h
    · exact .inr h
theorem spn_gt {v:Int} {c g:Nat}:∀ {t:Tm},Gt v c g t→∀ x,x ∈ (spn t).2.1→Gt v c g x
  | .mk f n hd nm ls nl fl [] sp,G,x,hx=>by rw [spn] at hx; simp at hx; intros; simp_all
  | .mk f n hd nm ls nl fl [k] sp,G,x,hx=>by rw [spn] at hx; simp at hx; intros; simp_all
  | .mk f n hd nm ls nl fl (k0::k1::ks) sp,G,x,hx=>by
    have hk:∀ k,k∈k0::k1::ks→Gt v c g k:=fun k hk=>by
      have:=size_kid (t := .mk f n hd nm ls nl fl (k0::k1::ks) sp) hk
      have h2:=high_kid (t := .mk f n hd nm ls nl fl (k0::k1::ks) sp) hk
      have h3:=G.size
      have h4:=G.high
      exact ⟨(okW_iff.1 G.ok).2 _ (by rw [abs_kids]; exact List.mem_map.2 ⟨k,hk,rfl⟩),by omega,by omega⟩
    rw [spn] at hx
    by_cases e:f=5
    · rw [if_pos e] at hx
      rcases List.mem_append.1 hx with hx | hx
      · exact spn_gt (hk k0 (by simp)) x hx
      · rw [List.mem_singleton.1 hx]; exact hk k1 (by simp)
    · rw [if_neg e] at hx; simp at hx
theorem WOk.up {n r q c c':Nat} {h:Hps} {L:List D} {res:Rd} (W:WOk n h r q L c res) (hc:c≤c'):WOk n h r q L c' res:=by
  obtain ⟨n',h',q',L',a1,a2,a3,a4,a5,a6⟩:=W
  exact ⟨n',h',q',L',a1,a2,a3,a4,a5,by omega⟩
structure Ww (T:Tm) (c:Nat):Prop where
  run:Wt T c
theorem Ww.up {T:Tm} {c c':Nat} (W:Ww T c) (hc:c≤c'):Ww T c':=⟨fun {_ _} hg {_ _ _} hW hL => (W.run hg hW (by omega)).up hc⟩
theorem w_set {j:Int} (h0:0≤j) (h1:j < 128):Ww (setT j) 3:=⟨fun {_ _} hg {_ _ _} hW hL=>wSet hg hW (by omega) h0 h1⟩
theorem w_var {k:Int} (h0:0≤k) (h1:k < 128):Ww (varT k) 2:=⟨fun {_ _} hg {_ _ _} hW hL=>wVar hg hW (by omega) h0 h1⟩
theorem w_con {nm:List Nat} (hn:nm≠[]∧nm.length < 128):Ww (conT nm) (3+nm.length):=⟨fun {_ _} hg {_ _ _} hW hL=>wConst hg hW (by omega) hn⟩
theorem w_two3 {a b:Tm} {ca cb:Nat} (A:Ww a ca) (B:Ww b cb):Ww (two 3 a b) (2+ca+cb):=⟨wTwo3 A.run B.run⟩
theorem w_two5 {a b:Tm} {ca cb:Nat} (A:Ww a ca) (B:Ww b cb):Ww (two 5 a b) (2+ca+cb):=⟨wTwo5 A.run B.run⟩
theorem w_pis {t:Tm} {c c':Nat}:∀ {l:List Tm},(∀ x,x∈l→Ww x c)→Ww t c'→Ww (pisT l t) (l.length * (2+c)+c')
  | [],_,T=>T.up (by simp)
  | a::l,hl,T => (w_two3 (hl a (by simp)) (w_pis (l:=l) (fun x hx=>hl x (by simp [hx])) T)).up (by rw [List.length_cons,Nat.succ_mul]; omega)
theorem w_app {c:Nat}:∀ {l:List Tm} {t:Tm} {c':Nat},(∀ x,x∈l→Ww x c)→Ww t c'→Ww (appT t l) (l.length * (2+c)+c')
  | [],t,c',_,T=>T.up (by simp)
  | a::l,t,c',hl,T=>by
    have A:=w_app (l:=l) (fun x hx=>hl x (by simp [hx])) (w_two5 T (hl a (by simp)))
    show Ww (appT (two 5 t a) l) _
    exact A.up (by rw [List.length_cons,Nat.succ_mul]; omega)
theorem eqN_refl:∀ a:List Nat,eqN a a=true
  | []=>rfl
  | x::t=>by
    show Bool.rec (motive:=fun _=>Bool) false (eqN t t) (Nat.beq x x)=true
    rw [Nat.beq_refl]; exact eqN_refl t
theorem eqI_refl (a:Int):eqI a a=true:=by
  cases a with
  | ofNat k=>exact Nat.beq_refl k
  | negSucc k=>exact Nat.beq_refl k
theorem eqB_refl (b:Bool):eqB b b=true:=by cases b <;> rfl
theorem sameL_refl {ih:D→D→Bool}:∀ {l:List D},(∀ d,d∈l→ih d d=true)→sameL ih l l=true
  | [],_=>rfl
  | a::t,h=>by
    show Bool.rec (motive:=fun _=>Bool) false (sameL ih t t) (ih a a)=true
    rw [h a (by simp)]; exact sameL_refl fun d hd=>h d (by simp [hd])
theorem s_int {f:Nat} {q:IntKind} {a:Int}:sameD (f+1) (.int q a) (.int q a)=true:=by
  show Bool.and (Nat.beq (kc q) (kc q)) (eqI a a)=true
  rw [Nat.beq_refl,eqI_refl]; rfl
theorem s_bool {f:Nat} {a:Bool}:sameD (f+1) (.bool a) (.bool a)=true:=eqB_refl a
theorem s_str {f:Nat} {a:List Nat}:sameD (f+1) (.str a) (.str a)=true:=eqN_refl a
theorem s_nils {f:Nat}:sameD (f+1) .nils .nils=true:=rfl
theorem s_agg {f:Nat} {cs:List D} (h:∀ d,d∈cs→sameD f d d=true):sameD (f+1) (.agg cs) (.agg cs)=true:=sameL_refl (ih:=sameD f) h
theorem s_ms {f k r o l:Nat} {b:Bool}:sameD (f+1) (.ms k r o l b) (.ms k r o l b)=true:=by
  show Bool.and (Nat.beq k k) (Bool.and (Nat.beq r r) (Bool.and (Nat.beq o o) (Bool.and (Nat.beq l l) (eqB b b))))=true
  rw [Nat.beq_refl,Nat.beq_refl,Nat.beq_refl,Nat.beq_refl,eqB_refl]; rfl
theorem s_slD {α:Type} {enc:α→D} {f k:Nat} {s:Sl α} (h1:∀ x,x∈s.el→sameD f (enc x) (enc x)=true) (h2:∀ x,x∈s.sp→sameD f (enc x) (enc x)=true):sameD (f+1) (slD k enc s) (slD k enc s)=true:=by
  unfold slD
  cases s.nil && s.el.isEmpty && s.sp.isEmpty with
  | true=>rfl
  | false =>
    show Bool.and (Nat.beq k k) (Bool.and (eqB s.full s.full) (Bool.and (sameL (sameD f) (s.el.map enc) (s.el.map enc)) (sameL (sameD f) (s.sp.map enc) (s.sp.map enc))))=true
    rw [Nat.beq_refl,eqB_refl,sameL_refl (fun d hd=>by obtain ⟨x,hx,rfl⟩:=List.mem_map.1 hd; exact h1 x hx),sameL_refl (fun d hd=>by obtain ⟨x,hx,rfl⟩:=List.mem_map.1 hd; exact h2 x hx)]
    rfl
theorem s_v {f:Nat} (x:LV):sameD (f+2) (encV x) (encV x)=true:=s_agg fun d hd=>by
  have hd:d∈[D.int .i64 x.1,D.int .i64 x.2]:=hd
  rcases List.mem_cons.1 hd with rfl | hd
  · exact s_int
  · rw [List.mem_singleton.1 hd]; exact s_int
theorem s_lev {f:Nat} (x:SLev):sameD (f+4) (encL x) (encL x)=true:=s_agg fun d hd=>by
  have hd:d∈[D.int .i64 x.n,slD 2 encV x.vs]:=hd
  rcases List.mem_cons.1 hd with rfl | hd
  · exact s_int
  · rw [List.mem_singleton.1 hd]; exact s_slD (fun x _=>s_v x) (fun x _=>s_v x)
def Sd (f:Nat) (t:Tm):Prop:=sameD f (encT t) (encT t)=true
theorem s_var {f:Nat} {k:Int}:Sd (f+2) (varT k):=s_agg fun d hd=>by
  have hd:d∈[D.int .i64 1,.int .i64 k,.bool false,.str [],.nils,.nils]:=hd
  simp only [List.mem_cons,List.not_mem_nil] at hd
  rcases hd with rfl | rfl | rfl | rfl | rfl | rfl | hd <;> first | exact s_int | exact s_bool | exact s_str | exact s_nils | exact absurd hd id
theorem s_con {f:Nat} {nm:List Nat}:Sd (f+2) (conT nm):=s_agg fun d hd=>by
  have hd:d∈[D.int .i64 10,.int .i64 0,.bool false,.str nm,.nils,.nils]:=hd
  simp only [List.mem_cons,List.not_mem_nil] at hd
  rcases hd with rfl | rfl | rfl | rfl | rfl | rfl | hd <;> first | exact s_int | exact s_bool | exact s_str | exact s_nils | exact absurd hd id
theorem s_set {f:Nat} {j:Int}:Sd (f+6) (setT j):=s_agg fun d hd=>by
  have hd:d∈[D.int .i64 2,.int .i64 0,.bool false,.str [],slD 2 encL (⟨false,true,[⟨j,Sl.app []⟩],[]⟩:Sl SLev),.nils]:=hd
  simp only [List.mem_cons,List.not_mem_nil] at hd
  rcases hd with rfl | rfl | rfl | rfl | rfl | rfl | hd <;> first | exact s_int | exact s_bool | exact s_str | exact s_nils | exact s_slD (fun x _=>s_lev x) (fun x _=>s_lev x) | exact absurd hd id
theorem s_two {f:Nat} {q:Int} {a b:Tm} (A:Sd f a) (B:Sd f b):Sd (f+2) (two q a b):=s_agg fun d hd=>by
  have hd:d∈[D.int .i64 q,.int .i64 0,.bool false,.str [],.nils,slD 6 encT (⟨false,true,[a,b],[]⟩:Sl Tm)]:=hd
  have key:sameD (f+1) (slD 6 encT (⟨false,true,[a,b],[]⟩:Sl Tm)) (slD 6 encT (⟨false,true,[a,b],[]⟩:Sl Tm))=true:=s_slD (fun x hx=>by
    rcases List.mem_cons.1 hx with rfl | hx
    · exact A
    · rw [List.mem_singleton.1 hx]; exact B) (fun x hx=>by cases hx)
  simp only [List.mem_cons,List.not_mem_nil] at hd
  rcases hd with rfl | rfl | rfl | rfl | rfl | rfl | hd <;> first | exact s_int | exact s_bool | exact s_str | exact s_nils | exact key | exact absurd hd id
end Go.Proofs.Ytpbpmpabndgeeaa
set_option linter.unusedSimpArgs false
set_option linter.unusedVariables false
namespace Go.Proofs.Ytpbpmpabndgeeaa
open Go
open Nat (reduceAdd reduceLT reduceLeDiff reduceEqDiff reduceMul)

theorem fPs {P I C pl rc:Nat} : (faT P I C pl rc).Ps.el=lT P:=by
  show (lT (P+I)).take P=lT P
  unfold lT; rw [List.take_replicate,Nat.min_eq_left (by omega)]
theorem fPl {P I C pl rc:Nat} : (faT P I C pl rc).Ps.el.length=P:=by rw [fPs,lT_len]
theorem cut_app {l:List Tm} {a b:Nat} (h:b≤l.length) : ((Sl.app l).cut a b).el = (l.drop a).take (b - a):=Sl.cut_el (s:=Sl.app l) h
theorem fIs {P I C pl rc:Nat} : (faT P I C pl rc).Is.el=lT I:=by
  show ((Sl.app (lT (P+I))).cut P (lT (P+I)).length).el=_
  rw [cut_app (Nat.le_refl _),lT_len]
  unfold lT
  rw [List.drop_replicate,List.take_replicate]
  congr 1
  omega
theorem fIl {P I C pl rc:Nat} : (faT P I C pl rc).Is.el.length=I:=by rw [fIs,lT_len]
theorem arl {P I pl rc:Nat} : (arT P I pl rc).length=P + (pl+rc):=by unfold arT; rw [List.length_append,List.length_append,lT_len,lT_len,recT_len]; omega
def vT (P I C pl rc:Nat):Sl Tm := (Sl.app (arT P I pl rc)).cut (faT P I C pl rc).Ps.el.length (arT P I pl rc).length
theorem vEl {P I C pl rc:Nat} : (vT P I C pl rc).el=lT pl++recT P I pl rc:=by
  unfold vT
  rw [cut_app (Nat.le_refl _),fPl]
  rw [List.take_of_length_le (by rw [List.length_drop]; exact Nat.le_refl _)]
  unfold arT
  rw [List.append_assoc,List.drop_append,lT_len,Nat.sub_self,List.drop_zero,List.drop_of_length_le (by rw [lT_len]; exact Nat.le_refl _),List.nil_append]
theorem vLen {P I C pl rc:Nat} : (vT P I C pl rc).el.length=pl+rc:=by rw [vEl,List.length_append,lT_len,recT_len]
theorem spn_at {P I:Nat} {x:Int} : (spn (atT P x I)).1=conT [68] ∧ (spn (atT P x I)).2.1=varsT P x++List.replicate I (conT [97]):=by
  have h0:spn (conT [68]) = (conT [68],[],[]):=spn_head (by show (10:Int)≠5; omega)
  obtain ⟨h1,h2⟩:=spn_appT (l:=varsT P x++List.replicate I (conT [97])) (t:=conT [68])
  rw [h0] at h1 h2
  exact ⟨h1,h2⟩
theorem form_at {P I:Nat} {x:Int} : (atT P x I).form≠3:=by
  rcases form_app (l:=varsT P x++List.replicate I (conT [97])) (t:=conT [68]) with h | h
  · show (appT _ _).form≠3
    rw [h]; show (10:Int)≠3; omega
  · show (appT _ _).form≠3
    rw [h]; omega
def wiT (P I pl rc:Nat) (x:Int):Sl Tm := (Sl.app (spn (atT P x I)).2.1).cut P (P+I)
theorem wEl {P I pl rc:Nat} {x:Int} : (wiT P I pl rc x).el=List.replicate I (conT [97]):=by
  unfold wiT
  have e : (spn (atT P x I)).2.1.length=P+I:=by rw [spn_at.2,List.length_append,varsT_len,List.length_replicate]
  rw [cut_app (by omega)]
  rw [spn_at.2,List.drop_append,varsT_len,Nat.sub_self,List.drop_zero,List.drop_of_length_le (by rw [varsT_len]; exact Nat.le_refl _),List.nil_append,List.take_of_length_le (by rw [List.length_replicate]; omega)]
theorem recs_at {pl rc:Nat}:recs (fun i=>decide (pl≤i)) (pl+rc) = (List.range rc).map (pl+·):=by
  unfold recs
  rw [List.range_add,List.filter_append]
  have e1 : (List.range pl).filter (fun i=>decide (pl≤i))=[]:=by
    rw [List.filter_eq_nil_iff]
    intro a ha
    have:=List.mem_range.1 ha
    simp; omega
  have e2 : ((List.range rc).map (pl+·)).filter (fun i=>decide (pl≤i)) = (List.range rc).map (pl+·):=by
    rw [List.filter_eq_self]
    intro a ha
    obtain ⟨i,_,rfl⟩:=List.mem_map.1 ha
    simp
  rw [e1,e2,List.nil_append]
theorem recs_l {pl rc:Nat} : (recs (fun i=>decide (pl≤i)) (pl+rc)).length=rc:=by rw [recs_at]; simp
theorem can0:Lev.canon ⟨0,[]⟩=true:=by decide
theorem can1:Lev.canon ⟨1,[]⟩=true:=by decide
theorem g_lT {k:Nat} {v:Int}:∀ x,x∈lT k→Gt v 1 1 x:=fun x hx=>by
  rw [List.eq_of_mem_replicate hx]; exact g_set can0
theorem g_at {P I:Nat} {x:Int} (hP:P≤5) (hI:I≤5) (h0:0≤x) (h1:x≤100):Gt 200 21 12 (atT P x I):=by
  refine (g_app (v:=200) (c:=1) (g:=1) (l:=varsT P x++List.replicate I (conT [97])) (t:=conT [68]) (c':=1) (g':=1) (fun y hy=>?_) (g_con (by simp))).up (Int.le_refl _) ?_ ?_
  · rcases List.mem_append.1 hy with hy | hy
    · exact g_vars h0 (by omega) (by omega) y hy
    · rw [List.eq_of_mem_replicate hy]; exact g_con (by simp)
  · rw [List.length_append,varsT_len,List.length_replicate]; omega
  · rw [List.length_append,varsT_len,List.length_replicate]; omega
theorem g_rec {P I pl rc:Nat} (hP:P≤5) (hI:I≤5) (hp:pl≤5) (hr:rc≤5):∀ x,x∈recT P I pl rc→Gt 200 21 12 x:=fun x hx=>by
  obtain ⟨i,hi,rfl⟩:=List.mem_map.1 hx
  have:=List.mem_range.1 hi
  exact g_at hP hI (by omega) (by omega)
theorem g_ar {P I pl rc:Nat} (hP:P≤5) (hI:I≤5) (hp:pl≤5) (hr:rc≤5):∀ x,x∈arT P I pl rc→Gt 200 21 12 x:=fun x hx=>by
  unfold arT at hx
  rcases List.mem_append.1 hx with hx | hx
  · rcases List.mem_append.1 hx with hx | hx <;> exact (g_lT x hx).up (Int.le_refl _) (by omega) (by omega)
  · exact g_rec hP hI hp hr x hx
theorem g_v {P I C pl rc:Nat} (hP:P≤5) (hI:I≤5) (hp:pl≤5) (hr:rc≤5):∀ x,x ∈ (vT P I C pl rc).el→Gt 200 21 12 x:=fun x hx=>by
  rw [vEl] at hx
  rcases List.mem_append.1 hx with hx | hx
  · exact (g_lT x hx).up (Int.le_refl _) (by omega) (by omega)
  · exact g_rec hP hI hp hr x hx
theorem g_typ {P I:Nat} (hP:P≤5) (hI:I≤5):Gt 200 30 20 (typT P I) :=
  (g_pis (v:=200) (l:=lT (P+I)) (c:=1) (g:=1) g_lT (g_set can1)).up (Int.le_refl _) (by rw [lT_len]; omega) (by rw [lT_len]; omega)
theorem g_ct {P I pl rc:Nat} (hP:P≤5) (hI:I≤5) (hp:pl≤5) (hr:rc≤5):Gt 200 400 40 (ctT P I pl rc) :=
  (g_pis (g_ar hP hI hp hr) (g_at hP hI (by omega) (by omega))).up (Int.le_refl _) (by rw [arl]; omega) (by rw [arl]; omega)
theorem w_at {P I:Nat} {x:Int} (hP:P≤5) (hI:I≤5) (h0:0≤x) (h1:x≤100):Ww (atT P x I) 70:=by
  refine (w_app (c:=4) (l:=varsT P x++List.replicate I (conT [97])) (t:=conT [68]) (c':=4) (fun y hy=>?_) (w_con (by simp))).up ?_
  · rcases List.mem_append.1 hy with hy | hy
    · obtain ⟨i,hi,rfl⟩:=List.mem_map.1 hy
      have:=List.mem_range.1 hi
      exact (w_var (by omega) (by omega)).up (by omega)
    · rw [List.eq_of_mem_replicate hy]; exact w_con (by simp)
  · rw [List.length_append,varsT_len,List.length_replicate]; omega
theorem w_ar {P I pl rc:Nat} (hP:P≤5) (hI:I≤5) (hp:pl≤5) (hr:rc≤5):∀ x,x∈arT P I pl rc→Ww x 70:=fun x hx=>by
  unfold arT at hx
  rcases List.mem_append.1 hx with hx | hx
  · rcases List.mem_append.1 hx with hx | hx <;> · rw [List.eq_of_mem_replicate hx]; exact (w_set (by omega) (by omega)).up (by omega)
  · obtain ⟨i,hi,rfl⟩:=List.mem_map.1 hx
    have:=List.mem_range.1 hi
    exact w_at hP hI (by omega) (by omega)
theorem w_ct {P I pl rc:Nat} (hP:P≤5) (hI:I≤5) (hp:pl≤5) (hr:rc≤5):Ww (ctT P I pl rc) 1200 :=
  (w_pis (w_ar hP hI hp hr) (w_at hP hI (by omega) (by omega))).up (by rw [arl]; omega)
theorem w_typ {P I:Nat} (hP:P≤5) (hI:I≤5):Ww (typT P I) 60 :=
  (w_pis (l:=lT (P+I)) (c:=3) (fun x hx=>by rw [List.eq_of_mem_replicate hx]; exact w_set (by omega) (by omega)) (w_set (by omega) (by omega))).up (by rw [lT_len]; omega)
def Dp (m:Nat) (t:Tm):Prop:=∀ f,Sd (f+m) t
theorem Dp.up {m k:Nat} {t:Tm} (h:Dp m t) (hk:m≤k):Dp k t:=fun f=>by
  have:=h (f + (k - m))
  rwa [show f + (k - m)+m=f+k by omega] at this
theorem dp_two {m:Nat} {q:Int} {a b:Tm} (A:Dp m a) (B:Dp m b):Dp (m+2) (two q a b):=fun f=>s_two (A f) (B f)
theorem dp_pis {m:Nat} {t:Tm}:∀ {l:List Tm},(∀ x,x∈l→Dp m x)→Dp m t→Dp (m+2*l.length) (pisT l t)
  | [],_,T=>T
  | a::l,hl,T=>by
    have:=dp_two (q:=3) ((hl a (by simp)).up (show m≤m+2*l.length by omega)) (dp_pis (l:=l) (fun x hx=>hl x (by simp [hx])) T)
    exact this.up (by rw [List.length_cons]; omega)
theorem dp_app {m:Nat}:∀ {l:List Tm} {t:Tm} {k:Nat},(∀ x,x∈l→Dp m x)→m≤k→Dp k t→Dp (k+2*l.length) (appT t l)
  | [],_,_,_,_,T=>T
  | a::l,t,k,hl,hk,T=>by
    have:=dp_app (l:=l) (k:=k+2) (fun x hx=>hl x (by simp [hx])) (by omega) (dp_two (q:=5) T ((hl a (by simp)).up hk))
    exact this.up (by rw [List.length_cons]; omega)
theorem dp_set {j:Int}:Dp 6 (setT j):=fun f=>s_set
theorem dp_at {P I:Nat} {x:Int} (hP:P≤5) (hI:I≤5):Dp 30 (atT P x I):=by
  refine (dp_app (m:=2) (l:=varsT P x++List.replicate I (conT [97])) (t:=conT [68]) (k:=2) (fun y hy=>?_) (Nat.le_refl _) (fun f=>s_con)).up ?_
  · rcases List.mem_append.1 hy with hy | hy
    · obtain ⟨i,_,rfl⟩:=List.mem_map.1 hy
      exact fun f=>s_var
    · rw [List.eq_of_mem_replicate hy]; exact fun f=>s_con
  · rw [List.length_append,varsT_len,List.length_replicate]; omega
theorem dp_ct {P I pl rc:Nat} (hP:P≤5) (hI:I≤5) (hp:pl≤5) (hr:rc≤5):Dp 100 (ctT P I pl rc):=by
  refine (dp_pis (m:=30) (fun x hx=>?_) (dp_at hP hI)).up (by rw [arl]; omega)
  unfold arT at hx
  rcases List.mem_append.1 hx with hx | hx
  · rcases List.mem_append.1 hx with hx | hx <;> · rw [List.eq_of_mem_replicate hx]; exact dp_set.up (by omega)
  · obtain ⟨i,_,rfl⟩:=List.mem_map.1 hx
    exact dp_at hP hI
theorem dp_typ {P I:Nat} (hP:P≤5) (hI:I≤5):Dp 100 (typT P I) :=
  (dp_pis (m:=6) (l:=lT (P+I)) (fun x hx=>by rw [List.eq_of_mem_replicate hx]; exact dp_set) dp_set).up (by rw [lT_len]; omega)
theorem sameL_mem {ih:D→D→Bool}:∀ {l:List D},sameL ih l l=true→∀ d,d∈l→ih d d=true
  | a::t,h,d,hd=>by
    replace h:Bool.rec (motive:=fun _=>Bool) false (sameL ih t t) (ih a a)=true:=h
    cases e:ih a a with
    | false=>rw [e] at h; cases h
    | true =>
      rw [e] at h
      rcases List.mem_cons.1 hd with rfl | hd
      · exact e
      · exact sameL_mem h d hd
theorem cellsT {f:Nat} {t:Tm} (h:Sd (f+1) t):∀ d,d∈[D.int .i64 t.form,.int .i64 t.n,.bool t.hid,.str t.name,slD 2 encL t.levels,slD 6 encT t.kids]→sameD f d d=true:=by
  unfold Sd at h
  rw [encT_eq] at h
  exact sameL_mem (ih:=sameD f) h
theorem sameO_row {k:Nat} {es:List D} (h:∀ d,d∈es→sameD 1000 d d=true):sameO (.row k es) (.row k es)=true:=by
  show Bool.and (Nat.beq k k) (sameL (sameD 1000) es es)=true
  rw [Nat.beq_refl]
  exact sameL_refl h
theorem fam_same {P I C pl rc:Nat} (hP:P≤5) (hI:I≤5) (r:Nat):sameO (Ob.row 21 [.agg [.int .i64 3,.str (faT P I C pl rc).nm,.int .i64 0,.int .i64 (faT P I C pl rc).typ.form,.int .i64 (faT P I C pl rc).typ.n,.bool (faT P I C pl rc).typ.hid,.str (faT P I C pl rc).typ.name,slD 2 encL (faT P I C pl rc).typ.levels,slD 6 encT (faT P I C pl rc).typ.kids,.int .i64 0,.int .i64 0,.bool false,.str [],.nils,.nils,.int .i64 ((faT P I C pl rc).P:Nat),.ms 7 (r) 0 (faT P I C pl rc).cs.length false,slD 6 encT (faT P I C pl rc).Ps,slD 6 encT (faT P I C pl rc).Is,.int .i64 (faT P I C pl rc).so.n,slD 2 encV (faT P I C pl rc).so.vs]]) (Ob.row 21 [.agg [.int .i64 3,.str (faT P I C pl rc).nm,.int .i64 0,.int .i64 (faT P I C pl rc).typ.form,.int .i64 (faT P I C pl rc).typ.n,.bool (faT P I C pl rc).typ.hid,.str (faT P I C pl rc).typ.name,slD 2 encL (faT P I C pl rc).typ.levels,slD 6 encT (faT P I C pl rc).typ.kids,.int .i64 0,.int .i64 0,.bool false,.str [],.nils,.nils,.int .i64 ((faT P I C pl rc).P:Nat),.ms 7 (r) 0 (faT P I C pl rc).cs.length false,slD 6 encT (faT P I C pl rc).Ps,slD 6 encT (faT P I C pl rc).Is,.int .i64 (faT P I C pl rc).so.n,slD 2 encV (faT P I C pl rc).so.vs]])=true:=by
  have ct:=cellsT (f:=999) (t:=typT P I) ((dp_typ hP hI) 900)
  have set9:∀ x,x∈lT (P+I)→sameD 998 (encT x) (encT x)=true:=fun x hx=>by rw [List.eq_of_mem_replicate hx]; exact dp_set 992
  refine sameO_row fun d hd=>?_
  rw [List.mem_singleton.1 hd]
  refine s_agg (f:=999) fun d hd=>?_
  have kL:sameD 999 (slD 2 encL (typT P I).levels) (slD 2 encL (typT P I).levels)=true:=ct _ (by simp)
  have kK:sameD 999 (slD 6 encT (typT P I).kids) (slD 6 encT (typT P I).kids)=true:=ct _ (by simp)
  have kV:sameD 999 (slD 2 encV (Sl.app ([]:List LV))) (slD 2 encV (Sl.app ([]:List LV)))=true:=rfl
  have kP:sameD 999 (slD 6 encT (faT P I C pl rc).Ps) (slD 6 encT (faT P I C pl rc).Ps)=true:=s_slD (f:=998) (fun x hx=>set9 x (List.mem_of_mem_take hx)) (fun x hx=>by cases hx)
  have kI:sameD 999 (slD 6 encT (faT P I C pl rc).Is) (slD 6 encT (faT P I C pl rc).Is)=true:=s_slD (f:=998) (fun x hx=>by
      have hx:x ∈ ((lT (P+I)++[]).drop P).take _:=hx
      have:=List.mem_of_mem_drop (List.mem_of_mem_take hx)
      rw [List.append_nil] at this
      exact set9 x this) (fun x hx=>by
      have hx:x ∈ (lT (P+I)++[]).drop _:=hx
      have:=List.mem_of_mem_drop hx
      rw [List.append_nil] at this
      exact set9 x this)
  simp only [List.mem_cons,List.not_mem_nil] at hd
  rcases hd with rfl | rfl | rfl | rfl | rfl | rfl | rfl | rfl | rfl | rfl | rfl | rfl | rfl | rfl | rfl | rfl | rfl | rfl | rfl | rfl | rfl | hd
  all_goals first | exact s_int (f:=998) | exact s_bool (f:=998) | exact s_str (f:=998) | exact s_nils (f:=998) | exact s_ms (f:=998) | exact kP | exact kI | exact kL | exact kK | exact kV | exact absurd hd id
theorem cs_same {P I pl rc C:Nat} (hP:P≤5) (hI:I≤5) (hp:pl≤5) (hr:rc≤5):sameO (.row 7 ((csT P I pl rc C).map encC)) (.row 7 ((csT P I pl rc C).map encC))=true:=by
  have ct:=cellsT (f:=999) (t:=ctT P I pl rc) ((dp_ct hP hI hp hr) 900)
  refine sameO_row fun d hd=>?_
  obtain ⟨c,hc,rfl⟩:=List.mem_map.1 hd
  obtain ⟨i,_,rfl⟩:=List.mem_map.1 hc
  rw [encC_eq]
  refine s_agg (f:=999) fun d hd=>?_
  rcases List.mem_cons.1 hd with rfl | hd
  · exact s_str (f:=998)
  · exact ct d hd
end Go.Proofs.Ytpbpmpabndgeeaa
set_option linter.unusedSimpArgs false
set_option linter.unusedVariables false
namespace Go.Proofs.Ytpbpmpabndgeeaa
open Go
open Nat (reduceAdd reduceLT reduceLeDiff reduceEqDiff reduceMul)

theorem cs_at {P I pl rc C k:Nat} (hk:k < C) : (csT P I pl rc C)[k]? = some ([99,48+k],ctT P I pl rc):=by
  unfold csT
  rw [List.getElem?_map,List.getElem?_range hk]; rfl
theorem vars_at {P i:Nat} {x:Int} (hi:i < P) : (varsT P x)[i]? = some (varT (x+P - 1 - i)):=by
  unfold varsT
  rw [List.getElem?_map,List.getElem?_range hi]; rfl
theorem it_at {P I C pl rc f r:Nat} (hP:P≤5) (hI:I≤5) {x:Int} (h0:0≤x) (h1:x≤100) {n:Nat} {h:Hps} (hg:Gd n h) (X:Fat (faT P I C pl rc) f r n h) :
    callFn (LX (cF Try.prog)) n h [.ptr f 0 0,(D.agg [.int .i64 (atT P x I).form,.int .i64 (atT P x I).n,.bool (atT P x I).hid,.str (atT P x I).name,slD 2 encL (atT P x I).levels,slD 6 encT (atT P x I).kids]),.int .i64 x] (cF Try.prog 44) = .ok (.tup [slD 6 encT (wiT P I pl rc x),.bool true]) n h:=by
  have G:=g_at hP hI h0 h1
  obtain ⟨s1,s2⟩:=spn_at (P:=P) (I:=I) (x:=x)
  have:=pItself hg X (atT P x I) G.formed (by have:=G.size; omega) x (by omega) (by rw [s1]; rfl) (by rw [s1]; rfl) (by rw [s1]; rfl) (by rw [s2,fPl,fIl,List.length_append,varsT_len,List.length_replicate]) (by rw [fPl,fIl]; omega)
    (fun i hi=>by
      rw [fPl] at hi ⊢
      exact ⟨_,by rw [s2,List.getElem?_append_left (by rw [varsT_len]; exact hi),vars_at hi],rfl,rfl⟩)
  rw [fPl,fIl] at this
  exact this
theorem mkr {P I C pl rc f r k:Nat} (hP:P≤5) (hI:I≤5) (hp:pl≤5) (hr:rc≤5) (hk:k < C) :
    Mkr (faT P I C pl rc) f r k (pl+rc) [99,48+k] (ctT P I pl rc) (arT P I pl rc) (atT P ((pl+rc:Nat):Int) I) (slD 6 encT (wiT P I pl rc ((pl+rc:Nat):Int))) (fun i=>decide (pl≤i)) where
  at_:=cs_at hk
  form := (g_ct hP hI hp hr).formed
  size:=by have := (g_ct hP hI hp hr).size; omega
  strp:=strp_pis form_at
  len:=by rw [arl,fPl]
  few:=by rw [fPl]; omega
  par:=fun i hi=>by
    have hi':i < P:=by rw [fPl] at hi; exact hi
    refine ⟨?_,?_⟩
    · have : (faT P I C pl rc).Ps.el[i]? = some (setT 0):=by rw [fPs]; unfold lT; rw [List.getElem?_replicate,if_pos hi']
      rw [List.getElem?_eq_getElem hi] at this
      exact Option.some.inj this
    · unfold arT
      rw [List.append_assoc,List.getElem?_append_left (by rw [lT_len]; exact hi')]
      unfold lT; rw [List.getElem?_replicate,if_pos hi']
  dI1:=flat2_slD
  dI2:=one_slD
  res:=fun m h hg X=>it_at hP hI (by omega) (by omega) hg X
  arg:=fun i hi=>by
    rw [fPl]
    by_cases hpi:pl≤i
    · obtain ⟨j,rfl⟩:∃ j,i=pl+j:=⟨i - pl,by omega⟩
      have hj:j < rc:=by omega
      have G:=g_at (P:=P) (I:=I) (x := ((pl+j:Nat):Int)) hP hI (by omega) (by omega)
      refine ⟨atT P ((pl+j:Nat):Int) I,slD 6 encT (wiT P I pl rc ((pl+j:Nat):Int)),?_,flat2_slD,one_slD,fun m h hg X=>?_⟩
      · unfold arT recT
        rw [List.getElem?_append_right (by rw [List.length_append,lT_len,lT_len]; omega),List.length_append,lT_len,lT_len,show P + (pl+j) - (P+pl)=j by omega,List.getElem?_map,List.getElem?_range hj]; rfl
      · rw [decide_eq_true hpi]
        have st:strp (atT P ((pl+j:Nat):Int) I) = ([],atT P ((pl+j:Nat):Int) I):=strp_end form_at
        exact pRecur hg X _ G.formed (by have:=G.size; omega) _ (by omega) (by rw [st]) _ true flat2_slD one_slD (fun m h hg X=>by rw [st]; exact it_at hP hI (by omega) (by omega) hg X)
    · have G:Gt 200 1 1 (setT 0):=g_set can0
      refine ⟨setT 0,.nils,?_,rfl,rfl,fun m h hg X=>?_⟩
      · unfold arT
        rw [List.append_assoc,List.getElem?_append_right (by rw [lT_len]; omega),lT_len,show P+i - P=i by omega,List.getElem?_append_left (by rw [lT_len]; omega)]
        unfold lT; rw [List.getElem?_replicate,if_pos (by omega)]
      · rw [decide_eq_false hpi]
        have st:strp (setT 0) = ([],setT 0):=strp_end (by show (2:Int)≠3; omega)
        have sp:spn (setT 0) = (setT 0,[],[]):=spn_head (by show (2:Int)≠5; omega)
        exact pRecur hg X _ G.formed (by have:=G.size; omega) _ (by omega) (by rw [st]) .nils false rfl rfl (fun m h hg X=>by rw [st]; exact pItselfNo hg X _ G.formed (by have:=G.size; omega) _ (by rw [sp]; show (2:Int)≠10; omega))
def blT (P I pl rc:Nat) (i:Nat):Tm:=belowT P (pl+rc) i (pl+i) (atT P ((pl+i:Nat):Int) I)
def MTT (P I C pl rc:Nat) (k:Nat):Tm:=methT P [99,48+k] (vT P I C pl rc).el (wiT P I pl rc ((pl+rc:Nat):Int)).el rc (blT P I pl rc)
theorem v_at {P I C pl rc i:Nat} (hi:i < rc) : (vT P I C pl rc).el[pl+i]? = some (atT P ((pl+i:Nat):Int) I):=by
  rw [vEl,List.getElem?_append_right (by rw [lT_len]; omega),lT_len,show pl+i - pl=i by omega]
  unfold recT
  rw [List.getElem?_map,List.getElem?_range hi]; rfl
theorem meth {P I C pl rc f r k:Nat} (hP:P≤5) (hI:I≤5) (hp:pl≤5) (hr:rc≤5) (hk:k < C) {m:Nat} {h:Hps} {q:Nat} (hg:Gd m h) (X:Fat (faT P I C pl rc) f r m h)
    (M:Mat (vT P I C pl rc) (recs (fun i=>decide (pl≤i)) (pl+rc)) (slD 6 encT (wiT P I pl rc ((pl+rc:Nat):Int))) q m h) :
    callFn (LX (cF Try.prog)) m h [.ptr f 0 0,.int .i64 (k:Nat),.ptr q 0 0] (cF Try.prog 24) = .ok (encT (MTT P I C pl rc k)) m h:=by
  have gw:∀ x,x ∈ (wiT P I pl rc ((pl+rc:Nat):Int)).el→Gt 200 1 1 x:=fun x hx=>by
    rw [wEl] at hx; rw [List.eq_of_mem_replicate hx]; exact g_con (by simp)
  have:=pMethod (B:=blT P I pl rc) hg X M (cs_at hk) (by rw [vLen]; omega) (by rw [wEl,List.length_replicate]; omega) (by rw [recs_l]; omega) (by rw [fPl]; omega) (fun x hx => (g_v hP hI hp hr x hx).sm (by omega) (by omega))
    (fun x hx=>⟨(gw x hx).sm (by omega) (by omega),((gw x hx).lift (by omega) _ (by omega) (by omega)).sm (by omega) (by omega)⟩)
    (fun i hi m g b3 b5 b7 hg X M y3 y5 y7=>by
      rw [recs_l] at hi
      have G:=g_at (P:=P) (I:=I) (x := ((pl+i:Nat):Int)) hP hI (by omega) (by omega)
      have G1:=G.lift (by omega) ((pl+i:Nat):Int) (b:=1) (by omega) (by omega)
      have G2:=G1.lift (by omega) 0 (b := ((pl+rc - (pl+i)+i:Nat):Int)) (by omega) (by omega)
      have y7':=y7
      rw [vLen] at y7'
      have:=pBelow (a:=pl+i) (N:=pl+rc) (I:=I) (T:=atT P ((pl+i:Nat):Int) I) hg X M y3 y5 y7' (by rw [recs_at,List.getElem?_map,List.getElem?_range hi]; rfl) (v_at hi) (by omega) (by omega) (by rw [recs_l]; omega)
        (G.sm (by omega) (by omega)) (G1.sm (by omega) (by omega)) G2.formed (by have:=G2.size; omega) (by
          rw [← abs_form]
          rcases lift_abs G1 (by omega) 0 ((pl+rc - (pl+i)+i:Nat):Int) with e | e
          · rw [e]
            rcases lift_abs G (by omega) ((pl+i:Nat):Int) 1 with e | e
            · rw [e,abs_form]; exact form_at
            · rw [e,form_lift,clean_form,abs_form]; exact form_at
          · rw [e,form_lift,clean_form]
            rcases lift_abs G (by omega) ((pl+i:Nat):Int) 1 with e | e
            · rw [e,abs_form]; exact form_at
            · rw [e,form_lift,clean_form,abs_form]; exact form_at) (by
          rw [fPl,nar_abs]
          have n0:naA (atT P ((pl+i:Nat):Int) I).abs=P+I:=by rw [← nar_abs,spn_at.2,List.length_append,varsT_len,List.length_replicate]
          have n1:naA (liftT ((pl+i:Nat):Int) 1 (atT P ((pl+i:Nat):Int) I)).abs=P+I:=by
            rcases lift_abs G (by omega) ((pl+i:Nat):Int) 1 with e | e
            · rw [e]; exact n0
            · rw [e,naA_lift,naA_clean]; exact n0
          rcases lift_abs G1 (by omega) 0 ((pl+rc - (pl+i)+i:Nat):Int) with e | e
          · rw [e]; exact n1
          · rw [e,naA_lift,naA_clean]; exact n1) (by rw [fPl]; omega)
      rw [fPl] at this
      exact this)
  rw [fPl,recs_l] at this
  exact this
end Go.Proofs.Ytpbpmpabndgeeaa
set_option linter.unusedSimpArgs false
set_option linter.unusedVariables false
namespace Go.Proofs.Ytpbpmpabndgeeaa
open Go
open Nat (reduceAdd reduceLT reduceLeDiff reduceEqDiff reduceMul)

theorem g_bl {P I pl rc i:Nat} (hP:P≤5) (hI:I≤5) (hp:pl≤5) (hr:rc≤5) (hi:i < rc):Gt 300 120 40 (blT P I pl rc i):=by
  have G:=g_at (P:=P) (I:=I) (x := ((pl+i:Nat):Int)) hP hI (by omega) (by omega)
  have G1:=G.lift (by omega) ((pl+i:Nat):Int) (b:=1) (by omega) (by omega)
  have G2 := (G1.lift (by omega) 0 (b := ((pl+rc - (pl+i)+i:Nat):Int)) (by omega) (by omega)).up (show _ ≤ (300:Int) by omega) (Nat.le_refl _) (Nat.le_refl _)
  have n0:naA (atT P ((pl+i:Nat):Int) I).abs=P+I:=by rw [← nar_abs,spn_at.2,List.length_append,varsT_len,List.length_replicate]
  have n1:naA (liftT ((pl+i:Nat):Int) 1 (atT P ((pl+i:Nat):Int) I)).abs=P+I:=by
    rcases lift_abs G (by omega) ((pl+i:Nat):Int) 1 with e | e
    · rw [e]; exact n0
    · rw [e,naA_lift,naA_clean]; exact n0
  have n2 : (spn (liftT 0 ((pl+rc - (pl+i)+i:Nat):Int) (liftT ((pl+i:Nat):Int) 1 (atT P ((pl+i:Nat):Int) I)))).2.1.length=P+I:=by
    rw [nar_abs]
    rcases lift_abs G1 (by omega) 0 ((pl+rc - (pl+i)+i:Nat):Int) with e | e
    · rw [e]; exact n1
    · rw [e,naA_lift,naA_clean]; exact n1
  unfold blT belowT
  generalize liftT 0 ((pl+rc - (pl+i)+i:Nat):Int) (liftT ((pl+i:Nat):Int) 1 (atT P ((pl+i:Nat):Int) I))=X at G2 n2 ⊢
  have hl : ((spn X).2.1.drop P).length≤5:=by rw [List.length_drop,n2]; omega
  have gs:∀ x,x ∈ (spn X).2.1.drop P→Gt 300 21 12 x:=fun x hx=>spn_gt G2 x (List.mem_of_mem_drop hx)
  generalize (spn X).2.1.drop P=L at hl gs
  have ga:=g_app gs (g_var (v:=300) (k := ((pl+rc+i:Nat):Int)) (by omega) (by omega) (by omega))
  refine (g_two (.inr rfl) ga (g_var (v:=300) (k := ((pl+rc - 1 - (pl+i)+i:Nat):Int)) (by omega) (by omega) (by omega))).up (Int.le_refl _) ?_ ?_
  · have:L.length * (1+21)≤5 * (1+21):=Nat.mul_le_mul_right _ hl
    omega
  · omega
theorem resT_app {N R:Nat} {l:List Tm} {t:Tm}:resT N R t l=appT t (l.map fun x=>liftT 0 (R:Nat) (liftT (N:Nat) 1 x)):=by
  induction l generalizing t with
  | nil=>rfl
  | cons a l ih=>exact ih
theorem g_lifted {v:Int} {c g:Nat} {l:List Tm} {b:Int} (hl:∀ x,x∈l→Gt v c g x) (hc:c≤100000) (hb:0≤b) (hv:v+b≤1000000000):∀ x,x∈liftedT l b→Gt (v+b) c g x:=fun x hx=>by
  unfold liftedT at hx
  rw [List.mem_mapIdx] at hx
  obtain ⟨i,hi,rfl⟩:=hx
  exact (hl _ (List.getElem_mem _)).lift hc _ hb hv
theorem lifted_len {l:List Tm} {b:Int} : (liftedT l b).length=l.length:=by simp [liftedT]
theorem g_MT {P I C pl rc k:Nat} (hP:P≤5) (hI:I≤5) (hC:C≤6) (hp:pl≤5) (hr:rc≤5) (hk:k < C):Gt 300 1000 100 (MTT P I C pl rc k):=by
  have gw:∀ x,x ∈ (wiT P I pl rc ((pl+rc:Nat):Int)).el.map (fun x=>liftT 0 (rc:Nat) (liftT ((pl+rc:Nat):Int) 1 x))→Gt 300 1 1 x:=fun x hx=>by
    obtain ⟨y,hy,rfl⟩:=List.mem_map.1 hx
    rw [wEl] at hy
    rw [List.eq_of_mem_replicate hy]
    have G:Gt 200 1 1 (conT [97]):=g_con (by simp)
    exact ((G.lift (by omega) ((pl+rc:Nat):Int) (b:=1) (by omega) (by omega)).lift (by omega) 0 (b := (rc:Nat)) (by omega) (by omega)).up (by omega) (Nat.le_refl _) (Nat.le_refl _)
  have gr:Gt 300 20 20 (resT (pl+rc) rc (varT ((pl+rc+rc:Nat):Int)) (wiT P I pl rc ((pl+rc:Nat):Int)).el):=by
    rw [resT_app]
    refine (g_app gw (g_var (v:=300) (by omega) (by omega) (by omega))).up (Int.le_refl _) ?_ ?_
    · rw [List.length_map,wEl,List.length_replicate]; omega
    · rw [List.length_map,wEl,List.length_replicate]; omega
  have gc:Gt 300 40 40 (appT (appT (conT [99,48+k]) (varsT P (1 + ((pl+rc:Nat):Int) + (rc:Nat)))) (varsT (pl+rc) (rc:Nat))):=by
    refine (g_app (g_vars (v:=300) (by omega) (by omega) (by omega)) (g_app (g_vars (v:=300) (by omega) (by omega) (by omega)) (g_con (by simp)))).up (Int.le_refl _) ?_ ?_
    · rw [varsT_len,varsT_len]; omega
    · rw [varsT_len,varsT_len]; omega
  have gb:∀ x,x∈rangeT (blT P I pl rc) rc→Gt 300 120 40 x:=fun x hx=>by
    obtain ⟨i,hi,rfl⟩:=List.mem_map.1 hx
    exact g_bl hP hI hp hr (List.mem_range.1 hi)
  have gv:∀ x,x∈liftedT (vT P I C pl rc).el 1→Gt 300 21 12 x:=fun x hx => (g_lifted (g_v hP hI hp hr) (by omega) (by omega) (by omega) x hx).up (by omega) (Nat.le_refl _) (Nat.le_refl _)
  have rl : (rangeT (blT P I pl rc) rc).length=rc:=by simp [rangeT]
  unfold MTT methT
  rw [vLen]
  refine (g_pis gv (g_pis gb (g_two (.inr rfl) gr gc))).up (Int.le_refl _) ?_ ?_
  · rw [lifted_len,vLen,rl]
    have h1:rc * (1+120)≤5 * (1+120):=Nat.mul_le_mul_right _ hr
    have h2 : (pl+rc) * (1+21)≤10 * (1+21):=Nat.mul_le_mul_right _ (by omega)
    omega
  · rw [lifted_len,vLen,rl]; omega
theorem np_MT {P I C pl rc k:Nat}:npi (MTT P I C pl rc k)=pl+2*rc:=by
  unfold MTT methT
  rw [npi_pis,npi_pis,lifted_len,vLen,npi_end (by show (5:Int)≠3; omega)]
  have rl : (rangeT (blT P I pl rc) rc).length=rc:=by simp [rangeT]
  rw [rl]; omega
theorem g_self {P:Nat} {x:Int} {l:List Tm} (hP:P≤5) (h0:0≤x) (h1:x≤100) (hl:∀ y,y∈l→Gt 300 1 1 y) (hn:l.length≤5):Gt 300 30 30 (selfT [68] P x l):=by
  unfold selfT
  refine (g_app hl (g_app (g_vars (v:=300) h0 (by omega) (by omega)) (g_con (by simp)))).up (Int.le_refl _) ?_ ?_
  · rw [varsT_len]; omega
  · rw [varsT_len]; omega
theorem can2 : (cloneL lvl0).lev.canon=true:=by rw [cloneL_lev]; decide
theorem g_sort {v:Int}:Gt v 1 1 (sortT lvl0):=by
  refine ⟨okW_iff.2 ⟨⟨?_,fun e=>absurd e (by show (2:Int)≠1; omega),by show (2:Int)≠11; omega,Nat.le_refl _⟩,fun k hk=>absurd hk (by show k ∉ ([]:List Trm); simp)⟩,by rw [size_abs]; exact Nat.le_refl _,by rw [high_abs]; exact Nat.le_refl _⟩
  show (true && (decide (([(cloneL lvl0).lev]:List Lev).length=1) && ([(cloneL lvl0).lev]:List Lev).all Lev.canon))=true
  rw [List.all_cons,List.all_nil,can2]; rfl
theorem g_res {P I C pl rc:Nat} (hP:P≤5) (hI:I≤5) (hC:C≤6) (hp:pl≤5) (hr:rc≤5):Gt 400 20000 400 (resE (faT P I C pl rc) (MTT P I C pl rc)):=by
  have gm:∀ x,x∈methsT (MTT P I C pl rc) C→Gt 400 1000 100 x:=fun x hx=>by
    obtain ⟨i,hi,rfl⟩:=List.mem_map.1 hx
    have:=List.mem_range.1 hi
    exact ((g_MT hP hI hC hp hr this).lift (by omega) 0 (b := (i:Nat)) (by omega) (by omega)).up (by omega) (Nat.le_refl _) (Nat.le_refl _)
  have gi:∀ x,x∈liftedT (lT I) (1 + (C:Nat))→Gt 400 1 1 x:=fun x hx => (g_lifted (v:=200) g_lT (by omega) (by omega) (by omega) x hx).up (by omega) (Nat.le_refl _) (Nat.le_refl _)
  have gx := (g_self (P:=P) (x:=1 + (C:Nat) + (I:Nat)) (l:=varsT I 0) hP (by omega) (by omega) (g_vars (v:=300) (by omega) (by omega) (by omega)) (by rw [varsT_len]; exact hI)).up (show (300:Int)≤400 by omega) (Nat.le_refl _) (Nat.le_refl _)
  have ge:=g_two (.inr rfl) (g_app (g_vars (v:=400) (k:=I) (o:=1) (by omega) (by omega) (by omega)) (g_var (v:=400) (k:=1 + (I:Nat) + (C:Nat)) (by omega) (by omega) (by omega))) (g_var (v:=400) (k:=0) (by omega) (by omega) (by omega))
  have gq := (g_self (P:=P) (x := (I:Nat)) (l:=varsT I 0) hP (by omega) (by omega) (g_vars (v:=300) (by omega) (by omega) (by omega)) (by rw [varsT_len]; exact hI)).up (show (300:Int)≤400 by omega) (Nat.le_refl _) (Nat.le_refl _)
  have go:Gt 400 60 60 (motT [68] P (lT I)):=by
    unfold motT
    rw [lT_len]
    refine (g_pis g_lT (g_two (.inl rfl) gq g_sort)).up (Int.le_refl _) ?_ ?_
    · rw [lT_len]; omega
    · rw [lT_len]; omega
  have fn : (faT P I C pl rc).nm=[68]:=rfl
  have fc : (faT P I C pl rc).cs.length=C:=csT_len
  unfold resE elimT
  rw [fPl,fPs,fIs,fn,fc,methsT_len,lT_len]
  refine (g_pis g_lT (g_two (.inl rfl) go (g_pis gm (g_pis gi (g_two (.inl rfl) gx ge))))).up (Int.le_refl _) ?_ ?_
  · rw [lT_len,methsT_len,lifted_len,lT_len,varsT_len]
    have h1:C * (1+1000)≤6 * (1+1000):=Nat.mul_le_mul_right _ hC
    omega
  · rw [lT_len,methsT_len,lifted_len,lT_len,varsT_len]; omega
theorem np_res {P I C pl rc:Nat}:npi (resE (faT P I C pl rc) (MTT P I C pl rc))=P+1+C+I+1:=by
  have fc : (faT P I C pl rc).cs.length=C:=csT_len
  unfold resE elimT
  rw [npi_pis,npi_two,npi_pis,npi_pis,npi_two,npi_end (by show (5:Int)≠3; omega),fPl,methsT_len,lifted_len,fIl,fc]
  omega
theorem np_copy {v:Int} {c g:Nat} {t:Tm} (G:Gt v c g t) (hc:c≤100000):npi (copyT t)=npi t:=by rw [npi_abs,npi_abs,copy_abs G hc,npA_clean]
theorem fgd {P I C pl rc:Nat} (hP:P≤5) (hI:I≤5) (hC:1≤C∧C≤6) (hp:pl≤5) (hr:rc≤5) :
    Fgd (faT P I C pl rc) (pl+rc) 60 1200 (lT (P+I)) (setT 1) (ctT P I pl rc) (atT P ((pl+rc:Nat):Int) I) (arT P I pl rc) (wiT P I pl rc ((pl+rc:Nat):Int)) (fun i=>decide (pl≤i)) (MTT P I C pl rc) where
  ok:={
    nm:=by show ([68]:List Nat)≠[] ∧ ([68]:List Nat).length≤60; simp
    sane := (g_typ hP hI).sane
    check := (g_typ hP hI).check (by omega) (by omega)
    wt := (w_typ hP hI).run
    par:=by show P≤60; omega
    cs:=by show (csT P I pl rc C).length≤40; rw [csT_len]; omega
    ctor:=fun x hx=>by
      obtain ⟨i,_,rfl⟩:=List.mem_map.1 hx
      exact ⟨⟨by simp,by simp⟩,(g_ct hP hI hp hr).sane,(g_ct hP hI hp hr).check (by omega) (by omega),(w_ct hP hI hp hr).run⟩
    few:=by omega }
  ht := (g_typ hP hI).formed
  hs:=by have := (g_typ hP hI).size; show sizeT (typT P I).abs≤_; omega
  h1:=strp_pis (by show (2:Int)≠3; omega)
  h2:=rfl
  hP:=by show P≤_; rw [lT_len]; omega
  hl:=Nat.zero_lt_one
  h3:=rfl
  h4:=rfl
  h5:=rfl
  mkr:=fun f r k hk=>⟨_,mkr hP hI hp hr (by rw [show (faT P I C pl rc).cs.length=C from csT_len] at hk; exact hk)⟩
  num:=by show 1 ≤ (csT P I pl rc C).length; rw [csT_len]; exact hC.1
  sm:=fun k hk => (g_MT hP hI hC.2 hp hr (by rw [show (faT P I C pl rc).cs.length=C from csT_len] at hk; exact hk)).sm (by omega) (by omega)
  meth:=fun f r k hk m' g' q hg X M=>meth hP hI hp hr (by rw [show (faT P I C pl rc).cs.length=C from csT_len] at hk; exact hk) hg X M
  lP:=by rw [fPl]; omega
  lI:=by rw [fIl]; omega
  sI:=fun x hx=>by rw [fIs] at hx; exact (g_lT (v:=200) x hx).sm (by omega) (by omega)
  q1:=fam_same hP hI
  q2:=cs_same hP hI hp hr
theorem qIn {P I C pl rc:Nat} (hP:P≤5) (hI:I≤5) (hC:1≤C∧C≤6) (hp:pl≤5) (hr:rc≤5) :
    ∃ n' h',callFn (LX (cF Try.prog)) 0 [] [.int .i64 (P:Nat),.int .i64 (I:Nat),.int .i64 (C:Nat),.int .i64 (pl:Nat),.int .i64 (rc:Nat)] (cF Try.prog 3) = .ok (.bool true) n' h':=by
  have GR:=g_res (C:=C) hP hI hC.2 hp hr
  have GM:=g_MT (C:=C) (k:=C - 1) hP hI hC.2 hp hr (by omega)
  have gw:∀ x,x ∈ (wiT P I pl rc ((pl+rc:Nat):Int)).el→Gt 200 1 1 x:=fun x hx=>by
    rw [wEl] at hx; rw [List.eq_of_mem_replicate hx]; exact g_con (by simp)
  exact qCounts hP hI hC hp hr (fgd hP hI hC hp hr) (GR.sm (by omega) (by omega)) GR.sane (GR.check (by omega) (by omega)) GM.sane (GM.check (by omega) (by omega))
    (fun x hx => (g_v (C:=C) hP hI hp hr x hx).sm (by omega) (by omega)) ⟨by rw [wEl,List.length_replicate],fun x hx => (gw x hx).sm (by omega) (by omega)⟩
    ⟨(GR.copy (by omega)).formed,by have := (GR.copy (by omega)).size; omega,by rw [np_copy GR (by omega)]; exact np_res⟩
    ⟨(GM.copy (by omega)).formed,by have := (GM.copy (by omega)).size; omega,by rw [np_copy GM (by omega)]; exact np_MT⟩ recs_l vLen
end Go.Proofs.Ytpbpmpabndgeeaa
set_option linter.unusedSimpArgs false
set_option linter.unusedVariables false
namespace Go.Proofs.Ytpbpmpabndgeeaa
open Go Go.ChangeShapes Go.WideShapes Go.ChangeAt Go.RowKit
open Nat (reduceAdd reduceLT reduceLeDiff reduceEqDiff reduceMul)

set_option maxRecDepth 10000 in
set_option maxHeartbeats 4000000 in
theorem qAll (P I C pl rc:Int):∃ n' h',callFn (LX (cF Try.prog)) 0 [] [.int .i64 P,.int .i64 I,.int .i64 C,.int .i64 pl,.int .i64 rc] (cF Try.prog 3) = .ok (.bool true) n' h':=by
  have hgn:GoodAt 0 []:=good_nil
  have hal:=qAlive
  by_cases q1:P < 0
  · rw [f3_eq]; unfold c3; rw [callFn_eq (by rfl)]
    simp (disch:=first|assumption|omega|(simp (disch:=first|assumption|omega) only [sB,reduceAdd,reduceLT,reduceLeDiff,reduceEqDiff,reduceMul,↓reduceIte];done)|fail) only [sA,↓reduceIte,reduceLT,reduceEqDiff,reduceAdd,reduceLeDiff,hal,q1]
    exact ⟨_,_,rfl⟩
  by_cases q2:P > 5
  · rw [f3_eq]; unfold c3; rw [callFn_eq (by rfl)]
    simp (disch:=first|assumption|omega|(simp (disch:=first|assumption|omega) only [sB,reduceAdd,reduceLT,reduceLeDiff,reduceEqDiff,reduceMul,↓reduceIte];done)|fail) only [sA,↓reduceIte,reduceLT,reduceEqDiff,reduceAdd,reduceLeDiff,hal,q1,q2]
    exact ⟨_,_,rfl⟩
  by_cases q3:I < 0
  · rw [f3_eq]; unfold c3; rw [callFn_eq (by rfl)]
    simp (disch:=first|assumption|omega|(simp (disch:=first|assumption|omega) only [sB,reduceAdd,reduceLT,reduceLeDiff,reduceEqDiff,reduceMul,↓reduceIte];done)|fail) only [sA,↓reduceIte,reduceLT,reduceEqDiff,reduceAdd,reduceLeDiff,hal,q1,q2,q3]
    exact ⟨_,_,rfl⟩
  by_cases q4:I > 5
  · rw [f3_eq]; unfold c3; rw [callFn_eq (by rfl)]
    simp (disch:=first|assumption|omega|(simp (disch:=first|assumption|omega) only [sB,reduceAdd,reduceLT,reduceLeDiff,reduceEqDiff,reduceMul,↓reduceIte];done)|fail) only [sA,↓reduceIte,reduceLT,reduceEqDiff,reduceAdd,reduceLeDiff,hal,q1,q2,q3,q4]
    exact ⟨_,_,rfl⟩
  by_cases q5:C < 1
  · rw [f3_eq]; unfold c3; rw [callFn_eq (by rfl)]
    simp (disch:=first|assumption|omega|(simp (disch:=first|assumption|omega) only [sB,reduceAdd,reduceLT,reduceLeDiff,reduceEqDiff,reduceMul,↓reduceIte];done)|fail) only [sA,↓reduceIte,reduceLT,reduceEqDiff,reduceAdd,reduceLeDiff,hal,q1,q2,q3,q4,q5]
    exact ⟨_,_,rfl⟩
  by_cases q6:C > 6
  · rw [f3_eq]; unfold c3; rw [callFn_eq (by rfl)]
    simp (disch:=first|assumption|omega|(simp (disch:=first|assumption|omega) only [sB,reduceAdd,reduceLT,reduceLeDiff,reduceEqDiff,reduceMul,↓reduceIte];done)|fail) only [sA,↓reduceIte,reduceLT,reduceEqDiff,reduceAdd,reduceLeDiff,hal,q1,q2,q3,q4,q5,q6]
    exact ⟨_,_,rfl⟩
  by_cases q7:pl < 0
  · rw [f3_eq]; unfold c3; rw [callFn_eq (by rfl)]
    simp (disch:=first|assumption|omega|(simp (disch:=first|assumption|omega) only [sB,reduceAdd,reduceLT,reduceLeDiff,reduceEqDiff,reduceMul,↓reduceIte];done)|fail) only [sA,↓reduceIte,reduceLT,reduceEqDiff,reduceAdd,reduceLeDiff,hal,q1,q2,q3,q4,q5,q6,q7]
    exact ⟨_,_,rfl⟩
  by_cases q8:pl > 5
  · rw [f3_eq]; unfold c3; rw [callFn_eq (by rfl)]
    simp (disch:=first|assumption|omega|(simp (disch:=first|assumption|omega) only [sB,reduceAdd,reduceLT,reduceLeDiff,reduceEqDiff,reduceMul,↓reduceIte];done)|fail) only [sA,↓reduceIte,reduceLT,reduceEqDiff,reduceAdd,reduceLeDiff,hal,q1,q2,q3,q4,q5,q6,q7,q8]
    exact ⟨_,_,rfl⟩
  by_cases q9:rc < 0
  · rw [f3_eq]; unfold c3; rw [callFn_eq (by rfl)]
    simp (disch:=first|assumption|omega|(simp (disch:=first|assumption|omega) only [sB,reduceAdd,reduceLT,reduceLeDiff,reduceEqDiff,reduceMul,↓reduceIte];done)|fail) only [sA,↓reduceIte,reduceLT,reduceEqDiff,reduceAdd,reduceLeDiff,hal,q1,q2,q3,q4,q5,q6,q7,q8,q9]
    exact ⟨_,_,rfl⟩
  by_cases q10:rc > 5
  · rw [f3_eq]; unfold c3; rw [callFn_eq (by rfl)]
    simp (disch:=first|assumption|omega|(simp (disch:=first|assumption|omega) only [sB,reduceAdd,reduceLT,reduceLeDiff,reduceEqDiff,reduceMul,↓reduceIte];done)|fail) only [sA,↓reduceIte,reduceLT,reduceEqDiff,reduceAdd,reduceLeDiff,hal,q1,q2,q3,q4,q5,q6,q7,q8,q9,q10]
    exact ⟨_,_,rfl⟩
  obtain ⟨P',rfl⟩:=Int.eq_ofNat_of_zero_le (show 0≤P by omega)
  obtain ⟨I',rfl⟩:=Int.eq_ofNat_of_zero_le (show 0≤I by omega)
  obtain ⟨C',rfl⟩:=Int.eq_ofNat_of_zero_le (show 0≤C by omega)
  obtain ⟨p',rfl⟩:=Int.eq_ofNat_of_zero_le (show 0≤pl by omega)
  obtain ⟨r',rfl⟩:=Int.eq_ofNat_of_zero_le (show 0≤rc by omega)
  exact qIn (by omega) (by omega) (by omega) (by omega) (by omega)
theorem args_five {H:Type} {P:Program} {t u s r q:TypeId} {ds:List (DataW H)} {l:List D} (h:ArgsAre P [t,u,s,r,q] ds l):∃ (x y z o p:DataW H) (f g k j i:Nat),l=[dVal P f t x,dVal P g u y,dVal P k s z,dVal P j r o,dVal P i q p]∧Fit P f t x∧Fit P g u y∧Fit P k s z∧Fit P j r o∧Fit P i q p:=by
  obtain ⟨x,xs,f,l',rfl,rfl,h1,h2⟩:=args_cons h
  obtain ⟨y,z,o,p,g,k,j,i,rfl,h3,h4,h5,h6⟩:=args_four h2
  exact ⟨x,y,z,o,p,f,g,k,j,i,rfl,h1,h3,h4,h5,h6⟩
set_option maxRecDepth 100000 in
theorem ec_lifted (os:Os) (started:os.Started) (H:Type) (enc:TypeId×Value→H) :
    ReturnsInHanded {} Try.checked os 3 .any (Rows.elimCountsSpec.pre6 enc Try.prog Try.f3 Rows.elimCountsRow.domain false) (Rows.elimCountsSpec.post enc Try.prog Try.f3 false true false false):=by
  refine law_lifted (K:=noK) (C:=Try.checked) (tb:=4) own started (by kernel_rfl) Try.func3
    (ChangeSpec.witness6 (enc:=enc) (C:=Try.checked) false ⟨#[],#[.int .i64 0,.int .i64 0,.int .i64 0,.int .i64 0,.int .i64 0],[]⟩ 8 (by kernel_rfl) (by kernel_rfl) (by kernel_rfl) (by kernel_rfl))
    mixed laidOut rowed_maps full_slices (by kernel_rfl) rfl (by kernel_rfl) rfl ?_ ?_
  · intro ds hl
    match ds,hl with
    | [_,_,_,_,_],_=>rfl
  · intro ds l hA
    have hA:ArgsAre Try.prog [3,3,3,3,3] ds l:=hA
    obtain ⟨x1,x2,x3,x4,x5,f1,f2,f3,f4,f5,rfl,h1,h2,h3,h4,h5⟩:=args_five hA
    obtain ⟨n1,e1,_⟩:=int_arg (k := .i64) (by kernel_rfl) h1
    obtain ⟨n2,e2,_⟩:=int_arg (k := .i64) (by kernel_rfl) h2
    obtain ⟨n3,e3,_⟩:=int_arg (k := .i64) (by kernel_rfl) h3
    obtain ⟨n4,e4,_⟩:=int_arg (k := .i64) (by kernel_rfl) h4
    obtain ⟨n5,e5,_⟩:=int_arg (k := .i64) (by kernel_rfl) h5
    rw [e1,e2,e3,e4,e5]
    exact qAll n1 n2 n3 n4 n5

theorem ElimCounts_holds:Rows.ElimCountsSaid :=
  OpenClaim.holds_of_wide 3 Try.f3 rfl rfl rfl rfl rfl rfl rfl ⟨rfl,rfl,rfl,rfl,rfl⟩ rfl rfl rfl rfl rfl (by kernel_rfl) Try.func3 (by kernel_rfl)
    (of_decide_eq_true (by kernel_rfl)) (by unfold Func.isWrapper; first | (rw [if_pos (by decide +kernel)]; kernel_rfl) | (rw [if_neg (by decide +kernel)]; exact ⟨rfl,rfl⟩))
    (fun os started H enc _=>ec_lifted os started H enc)
end Go.Proofs.Ytpbpmpabndgeeaa
