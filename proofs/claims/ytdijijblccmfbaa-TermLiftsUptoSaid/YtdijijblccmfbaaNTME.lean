/- The program's Lift and Subst of terms. No condition but sizes. -/
import Derived.Test.YtdijijblccmfbaaNTMD
import Derived.Test.YtdijijblccmfbaaNTJ
set_option linter.unusedSimpArgs false
set_option linter.unusedVariables false
namespace Go.Proofs.Ytdijijblccmfbaa
open Go

theorem rlifts_len (b f:Int):∀ (ks:List Trm) (i:Nat) (a:Int),(rlifts b f i ks a).length=ks.length
  | [],_,_=>by rw [rlifts]
  | k::t,i,a=>by rw [rlifts,List.length_cons,List.length_cons,rlifts_len b f t]
theorem size_lift (b:Int):∀ t:Trm,∀ a,sizeT (rlift b t a)=sizeT t:=by
  refine Trm.ind ?_
  intro t ih a
  obtain ⟨f,n,hd,nm,ls,ks⟩:=t
  have key:∀ ks':List Trm,(∀ k,k∈ks'→k∈ks)→∀ i a,sizeTs (rlifts b f i ks' a)=sizeTs ks':=by
    intro ks'
    induction ks' with
    | nil=>intro _ i a; rw [rlifts]
    | cons k t ihk=>intro hk i a; rw [rlifts,sizeTs_cons,sizeTs_cons,ih k (hk k (by simp)),ihk (fun x hx=>hk x (by simp [hx]))]
  rw [rlift]
  split
  · rw [sizeT_eq,sizeT_eq]; rfl
  · rw [sizeT_eq,sizeT_eq]
    show 1+sizeTs (rlifts b f 0 ks a)=1+sizeTs ks
    rw [key ks (fun _ h=>h)]
theorem high_lift (b:Int):∀ t:Trm,∀ a,highT (rlift b t a)=highT t:=by
  refine Trm.ind ?_
  intro t ih a
  obtain ⟨f,n,hd,nm,ls,ks⟩:=t
  have key:∀ ks':List Trm,(∀ k,k∈ks'→k∈ks)→∀ i a,highTs (rlifts b f i ks' a)=highTs ks':=by
    intro ks'
    induction ks' with
    | nil=>intro _ i a; rw [rlifts]
    | cons k t ihk=>intro hk i a; rw [rlifts,highTs_cons,highTs_cons,ih k (hk k (by simp)),ihk (fun x hx=>hk x (by simp [hx]))]
  rw [rlift]
  split
  · rw [highT_eq,highT_eq]; rfl
  · rw [highT_eq,highT_eq]
    show 1+highTs (rlifts b f 0 ks a)=1+highTs ks
    rw [key ks (fun _ h=>h)]
theorem slim_mk (f n:Int) (hd:Bool) (nm:List Nat) (ls:List Lev) (ks:List Trm):slimT (.mk f n hd nm ls ks)=true ↔ (ks.length≤1000000 ∧ (f=1→0≤n∧n≤100000000000) ∧ (f=2∨f=10→ls.length≤1000000000∧∀ x,x∈ls→x.v.length≤1000000000))∧∀ k,k∈ks→slimT k=true:=by
  rw [slim_eq]
  show (decide (ks.length≤1000000) && (!decide (f=1) || decide (0≤n∧n≤100000000000)) && (!decide (f=2∨f=10) || (decide (ls.length≤1000000000) && ls.all fun x=>decide (x.v.length≤1000000000))) && ks.all slimT)=true↔_
  rw [Bool.and_eq_true,Bool.and_eq_true,Bool.and_eq_true,decide_eq_true_iff,List.all_eq_true,and_assoc (a:=ks.length≤1000000)]
  refine and_congr (and_congr Iff.rfl (and_congr ?_ ?_)) Iff.rfl
  · by_cases e:f=1
    · rw [decide_eq_true e,Bool.not_true,Bool.false_or,decide_eq_true_iff]; exact ⟨fun h _=>h,fun h=>h e⟩
    · rw [decide_eq_false e]; exact ⟨fun _ h=>absurd h e,fun _=>rfl⟩
  · by_cases e:f=2∨f=10
    · rw [decide_eq_true e,Bool.not_true,Bool.false_or,Bool.and_eq_true,decide_eq_true_iff,List.all_eq_true]
      exact ⟨fun h _=>⟨h.1,fun x hx=>of_decide_eq_true (h.2 x hx)⟩,fun h=>⟨(h e).1,fun x hx=>decide_eq_true ((h e).2 x hx)⟩⟩
    · rw [decide_eq_false e]; exact ⟨fun _ h=>absurd h e,fun _=>rfl⟩
theorem slim_lift {b:Int} (hb:0≤b∧b≤10000000):∀ t:Trm,formedT t=true→slimT t=true→∀ a,slimT (rlift b t a)=true:=by
  refine Trm.ind ?_
  intro t ih hf hs a
  rw [formedT_eq,Bool.and_eq_true,List.all_eq_true] at hf
  obtain ⟨hp,hfk⟩:=hf
  obtain ⟨f,n,hd,nm,ls,ks⟩:=t
  obtain ⟨⟨h1,h2,h3⟩,h4⟩ := (slim_mk f n hd nm ls ks).1 hs
  rw [rlift]
  split
  · rename_i he
    have hn:0≤n∧n≤1073741824:=by
      unfold partOk at hp
      rw [Bool.and_eq_true,if_pos (.inl he.1)] at hp
      exact of_decide_eq_true hp.2
    exact (slim_mk _ _ _ _ _ _).2 ⟨⟨h1,fun _=>by omega,h3⟩,h4⟩
  · refine (slim_mk _ _ _ _ _ _).2 ⟨⟨by rw [rlifts_len]; exact h1,h2,h3⟩,fun x hx=>?_⟩
    obtain ⟨k,a',hk,rfl⟩:=rlifts_mem b f ks 0 a x hx
    exact ih k hk (hfk k hk) (h4 k hk) a'
theorem flatP {X:D} {e:Int} (hX:flat2 X=true):flat (.tup [X,.int .i64 e])=true:=by
  rw [flat_tup,List.all_cons,List.all_cons,List.all_nil,hX]; rfl
theorem fin_pair {n m:Nat} {h:Hps} {X Y Z:D} {e:Int} (hg:Gd n h) (hX:flat2 X=true) (hY:flat Y=true) (hZ:flat Z=true) (hm:n+2≤m):finishD n m ((n+1,.row 6 [Y]) :: (n,.row 6 [Z])::h) (.tup [X,.int .i64 e]) = .ok (.tup [X,.int .i64 e]) n h :=
  finish_flat (flatP hX) ((((Hp.start hg).box (r:=n) (m:=n+1) (Nat.le_refl _) (by omega) hZ).box (r:=n+1) (m:=n+2) (by omega) (by omega) hY).mono hm)
theorem flat2T (t:Tm):flat2 (D.agg [.int .i64 (t).form,.int .i64 (t).n,.bool (t).hid,.str (t).name,slD 2 encL (t).levels,slD 6 encT (t).kids])=true:=by rw [← encT_eq]; exact elemT.flat t
theorem good_parts {t:Trm} (h:checkT t=0):formedT t=true∧sizeT t≤20000∧highT t≤500:=by
  have h1:=check_ok.1 h
  unfold goodT fitsT at h1
  rw [Bool.and_eq_true,decide_eq_true_iff] at h1
  exact ⟨h1.2,h1.1⟩
def LiftIs (t:Tm) (a b:Int) (t':Tm) (e:Int):Prop := (e=0∧checkT t.abs=0∧t'.abs=rlift b (cleanT t.abs) a∧checkT t'.abs=0) ∨ (e≠0∧e=checkT t.abs∧t'=zeroT) ∨ (checkT t.abs=0∧e=2∧t'=zeroT)
end Go.Proofs.Ytdijijblccmfbaa
