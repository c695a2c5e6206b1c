/- The reference's whole of a term; what is handed in. No condition but sizes. -/
import Derived.Test.YtdijijblccmfbaaNTXD
import Derived.Test.YtdijijblccmfbaaNTK
import Derived.Test.YtdijijblccmfbaaNTR
import Derived.Test.YtdijijblccmfbaaA38
import Derived.Test.YtdijijblccmfbaaNTME
import Derived.Test.YtdijijblccmfbaaNTVA
import Derived.Test.YtdijijblccmfbaaNCF1
set_option linter.unusedSimpArgs false
set_option linter.unusedVariables false
namespace Go.Proofs.Ytdijijblccmfbaa
open Go Go.ChangeShapes Go.WideShapes Go.ChangeAt Go.RowKit
open Nat (reduceAdd reduceLT reduceLeDiff reduceEqDiff reduceMul)

theorem size1_eq (t:Trm):sizeT1 t=true ↔ ((t.levels.length≤1000000000∧t.kids.length≤1000000000)∧∀ x,x∈t.levels→x.v.length≤1000000000)∧∀ k,k∈t.kids→sizeT1 k=true:=by
  unfold sizeT1
  rw [allT_eq,allTs_eq,Bool.and_eq_true,Bool.and_eq_true,decide_eq_true_iff,List.all_eq_true,List.all_eq_true]
  exact ⟨fun h=>⟨⟨h.1.1,fun x hx=>of_decide_eq_true (h.1.2 x hx)⟩,h.2⟩,fun h=>⟨⟨h.1.1,fun x hx=>decide_eq_true (h.1.2 x hx)⟩,h.2⟩⟩
theorem size1_clean:∀ t:Trm,sizeT1 t=true→sizeT1 (cleanT t)=true:=by
  refine Trm.ind ?_
  intro t ih h
  obtain ⟨⟨⟨h1,h2⟩,h3⟩,h4⟩ := (size1_eq t).1 h
  rw [clean_tidy]
  refine (size1_eq _).2 ⟨⟨⟨?_,by show (t.kids.map cleanT).length≤_; rw [List.length_map]; exact h2⟩,fun x hx=>?_⟩,fun k hk=>?_⟩
  · show (if t.form=2∨t.form=10 then t.levels else []).length≤_
    split
    · exact h1
    · simp
  · replace hx:x ∈ (if t.form=2∨t.form=10 then t.levels else []):=hx
    split at hx
    · exact h3 x hx
    · cases hx
  · obtain ⟨y,hy,rfl⟩:=List.mem_map.1 hk
    exact ih y hy (h4 y hy)
theorem size1_sane:∀ t:Trm,sizeT1 t=true→saneT t=true:=by
  refine Trm.ind ?_
  intro t ih h
  obtain ⟨⟨⟨h1,h2⟩,_⟩,h4⟩ := (size1_eq t).1 h
  exact (sane_eq t).2 ⟨⟨by omega,by omega⟩,fun k hk=>ih k hk (h4 k hk)⟩
theorem rWhole (t:Tm) (hs:sizeT1 t.abs=true) (n:Nat) (h:Hps) (hg:Gd n h):callFn (LX (cFk kL Try.prog)) n h [(D.agg [.int .i64 (t).form,.int .i64 (t).n,.bool (t).hid,.str (t).name,slD 2 encL (t).levels,slD 6 encT (t).kids])] (cFk kL Try.prog 61) = .ok (if checkT t.abs≠0 then .tup [(D.agg [.int .i64 0,.int .i64 0,.bool false,.str [],.nils,.nils]),.int .i64 2] else .tup [(D.agg [.int .i64 (rcl t).form,.int .i64 (rcl t).n,.bool (rcl t).hid,.str (rcl t).name,slD 2 encL (rcl t).levels,slD 6 encT (rcl t).kids]),.int .i64 0]) n h:=by
  have hG:∀ m,n≤m→Gd m h:=fun m hm=>hg.mono hm
  have c1:∀ m h,Gd m h→callFn (LX (cFk kL Try.prog)) m h [(D.agg [.int .i64 (t).form,.int .i64 (t).n,.bool (t).hid,.str (t).name,slD 2 encL (t).levels,slD 6 encT (t).kids])] (cFk kL Try.prog 27) = .ok (.int .i64 (checkT t.abs)) m h:=rCheck t (size1_sane _ hs)
  have c2:∀ m h,Gd m h→callFn (LX (cFk kL Try.prog)) m h [(D.agg [.int .i64 (t).form,.int .i64 (t).n,.bool (t).hid,.str (t).name,slD 2 encL (t).levels,slD 6 encT (t).kids])] (cFk kL Try.prog 30) = .ok (encT (rcl t)) m h:=rClean t hs
  rw [encT_eq] at c2
  by_cases hc:checkT t.abs=0
  · rw [if_neg (fun e=>e hc)]
    rw [f61_eq]; unfold c61; rw [callFn_eq (by rfl)]
    simp (disch:=first|assumption|omega|(simp (disch:=first|assumption|omega) only [sB,reduceAdd,reduceLT,reduceLeDiff,reduceEqDiff,reduceMul,↓reduceIte,hG,gd_tm,gd_zt];done)|fail) only [sA,↓reduceIte,reduceLT,reduceEqDiff,reduceAdd,reduceLeDiff,c1,hc,c2,hG,gd_tm,gd_zt]
    exact fin_pair hg (flat2T _) (flatTA _) (flatTA _) (by omega)
  · rw [if_pos hc]
    rw [f61_eq]; unfold c61; rw [callFn_eq (by rfl)]
    simp (disch:=first|assumption|omega|(simp (disch:=first|assumption|omega) only [sB,reduceAdd,reduceLT,reduceLeDiff,reduceEqDiff,reduceMul,↓reduceIte,hG,gd_tm,gd_zt];done)|fail) only [sA,↓reduceIte,reduceLT,reduceEqDiff,reduceAdd,reduceLeDiff,c1,hc,hG,gd_tm,gd_zt]
    exact fin_pair hg rfl rfl (flatTA _) (by omega)
theorem leve_arg {H:Type} (f:Nat) (x:DataW H) (h:Fit Try.prog f 65 x):∃ l:SLev,dVal Try.prog f 65 x=encL l ∧ (Rows.uptoBulk x≤1048576→l.vs.el.length≤1048576):=by
  obtain ⟨g,a,b,rfl,rfl,h1,h2,h4⟩:=struct2 Try.underlying65 h
  obtain ⟨i,e1,_⟩:=int_arg Try.underlying3 h1
  obtain ⟨s,e2,_,n5⟩:=slice_arg (k:=2) (enc:=encV) (R:=fun _ _=>True) Try.underlying63 (by kernel_rfl) h2 (fun g' y _ hy=>lvar_arg g' y hy)
  refine ⟨⟨i,s⟩,?_,fun hb=>?_⟩
  · rw [h4]
    show D.agg (cells (dVal _ g 3 a)++cells (dVal _ g 63 b))=_
    rw [e1,e2,cells_int,cells_slD]
    rfl
  · rw [bulk_agg,bulk_cons,bulk_cons,bulk_nil] at hb
    show s.el.length≤_
    rcases n5 with ⟨_,h8,_⟩ | ⟨es,sp,rfl,h8,_⟩
    · rw [h8]; simp
    · have:=h8.len
      rw [bulk_slice] at hb
      have:=bulk_len es
      omega
theorem tmd_arg {H:Type}:∀ (f:Nat) (x:DataW H),Fit Try.prog f 25 x→∃ t:Tm,dVal Try.prog f 25 x=encT t∧saneT t.abs=true ∧ (Rows.uptoBulk x≤1048576→fewT t.abs=true∧sizeT1 t.abs=true∧narrowT t.abs=true):=by
  intro f
  induction f using Nat.strongRecOn with
  | _ f ih =>
  intro x h
  obtain ⟨g,a,b,c,d,e,k,rfl,rfl,h1,h2,h3,h4,h5,h6,h7⟩:=struct6 Try.underlying25 h
  obtain ⟨i,e1,_⟩:=int_arg Try.underlying3 h1
  obtain ⟨j,e2,_⟩:=int_arg Try.underlying3 h2
  obtain ⟨q,e3⟩:=bool_arg Try.underlying4 h3
  obtain ⟨l,rfl,e4,_⟩:=str_arg Try.underlying9 h4
  obtain ⟨ls,e5,m5,n5⟩:=slice_arg (k:=2) (enc:=encL) (R:=fun l y=>Rows.uptoBulk y≤1048576→l.vs.el.length≤1048576) Try.underlying22 (by kernel_rfl) h5 (fun g' y _ hy=>leve_arg g' y hy)
  obtain ⟨s,e6,m6,m7⟩:=slice_arg (k:=6) (enc:=encT) (R:=fun t y=>saneT t.abs=true ∧ (Rows.uptoBulk y≤1048576→fewT t.abs=true∧sizeT1 t.abs=true∧narrowT t.abs=true)) Try.underlying23 (by kernel_rfl) h6 (fun g' y hg hy=>by
    obtain ⟨t,e,hs⟩:=ih g' (by omega) y hy
    exact ⟨t,e,hs⟩)
  refine ⟨.mk i j q (l.map UInt8.toNat) ls s.nil s.full s.el s.sp,?_,?_,?_⟩
  · rw [h7,encT_eq]
    show D.agg (cells (dVal _ g 3 a) ++ (cells (dVal _ g 3 b) ++ (cells (dVal _ g 4 c) ++ (cells (dVal _ g 9 _) ++ (cells (dVal _ g 22 e)++cells (dVal _ g 23 k))))))=_
    rw [e1,e2,e3,e4,e5,e6,cells_int,cells_int,cells_bool,cells_str,cells_slD,cells_slD]
    rfl
  · refine (sane_eq _).2 ⟨?_,?_⟩
    · rw [abs_levels,abs_kids,List.length_map,List.length_map]
      show ls.el.length≤_∧s.el.length≤_
      have:maxLen=9223372036854775807:=rfl
      omega
    · rw [abs_kids]
      intro k hk
      obtain ⟨y,hy,rfl⟩:=List.mem_map.1 hk
      replace hy:y∈s.el:=hy
      rcases m7 with ⟨_,h8,_⟩ | ⟨es,sp,_,h8,_⟩
      · rw [h8] at hy; cases hy
      · obtain ⟨_,_,h9⟩:=h8.mem y hy
        exact h9.1
  · intro hb
    rw [bulk_agg,bulk_cons,bulk_cons,bulk_cons,bulk_cons,bulk_cons,bulk_cons,bulk_nil] at hb
    have kl:ls.el.length≤1048576∧∀ y,y∈ls.el→y.vs.el.length≤1048576:=by
      rcases n5 with ⟨_,h8,_⟩ | ⟨es,sp,rfl,h8,_⟩
      · rw [h8]; exact ⟨by simp,fun y hy => (by cases hy)⟩
      · rw [bulk_slice] at hb
        refine ⟨by have:=h8.len; have:=bulk_len es; omega,fun y hy=>?_⟩
        obtain ⟨z,hz,h9⟩:=h8.mem y hy
        have:=bulk_mem hz
        exact h9 (by omega)
    have kk:s.el.length≤1048576∧∀ y,y∈s.el→fewT y.abs=true∧sizeT1 y.abs=true∧narrowT y.abs=true:=by
      rcases m7 with ⟨_,h8,_⟩ | ⟨es,sp,rfl,h8,_⟩
      · rw [h8]; exact ⟨by simp,fun y hy => (by cases hy)⟩
      · rw [bulk_slice] at hb
        refine ⟨by have:=h8.len; have:=bulk_len es; omega,fun y hy=>?_⟩
        obtain ⟨z,hz,h9⟩:=h8.mem y hy
        have:=bulk_mem hz
        exact h9.2 (by omega)
    refine ⟨(few_eq _).2 ⟨?_,?_⟩,(size1_eq _).2 ⟨⟨⟨?_,?_⟩,?_⟩,?_⟩,(narrow_eq _).2 ⟨?_,?_⟩⟩
    · rw [abs_levels,List.length_map]; show ls.el.length≤_; omega
    · rw [abs_kids]
      intro k hk
      obtain ⟨y,hy,rfl⟩:=List.mem_map.1 hk
      exact (kk.2 y hy).1
    · rw [abs_levels,List.length_map]; show ls.el.length≤_; omega
    · rw [abs_kids,List.length_map]; show s.el.length≤_; omega
    · rw [abs_levels]
      intro x hx
      obtain ⟨y,hy,rfl⟩:=List.mem_map.1 hx
      have:=kl.2 y hy
      show y.vs.el.length≤_
      omega
    · rw [abs_kids]
      intro k hk
      obtain ⟨y,hy,rfl⟩:=List.mem_map.1 hk
      exact (kk.2 y hy).2.1
    · rw [abs_kids,List.length_map]; show s.el.length≤_; omega
    · rw [abs_kids]
      intro k hk
      obtain ⟨y,hy,rfl⟩:=List.mem_map.1 hk
      exact (kk.2 y hy).2.2
end Go.Proofs.Ytdijijblccmfbaa
