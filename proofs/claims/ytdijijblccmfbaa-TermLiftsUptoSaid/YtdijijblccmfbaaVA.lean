/- A term that lies in the heap row by row: what it is as data, which rows it holds, and what a function that keeps its result makes of it. No condition but height. -/
import Derived.Test.YtdijijblccmfbaaNTM
set_option linter.unusedSimpArgs false
set_option linter.unusedVariables false
namespace Go.Proofs.Ytdijijblccmfbaa
open Go

def Lq (h:Hps) (ls:List SLev) (d:D) (rs:List Nat):Prop := (ls=[]∧d = .nils∧rs=[])∨∃ r,ls≠[]∧d = .ms 2 r 0 ls.length false∧rs=[r]∧getO h r = .row 2 (ls.map encL)
mutual
def Tq (h:Hps):Tm→D→List Nat→Prop
  | .mk f n hid nm ls nil full ks sp,d,rs => (nil=true∧full=false∧sp=[]∧ls.nil=true∧ls.full=false∧ls.sp=[])∧∃ lv kd rl rk,d = .agg [.int .i64 f,.int .i64 n,.bool hid,.str nm,lv,kd]∧rs=rl++rk∧Lq h ls.el lv rl ∧ ((ks=[]∧kd = .nils∧rk=[])∨∃ r ds rt,ks≠[]∧kd = .ms 6 r 0 ks.length false∧rk=r::rt∧getO h r = .row 6 ds∧Tqs h ks ds rt)
def Tqs (h:Hps):List Tm→List D→List Nat→Prop
  | [],ds,rs=>ds=[]∧rs=[]
  | k::t,ds,rs=>∃ d dt r1 r2,ds=d::dt∧rs=r1++r2∧Tq h k d r1∧Tqs h t dt r2
end
theorem Tqs_nil {h:Hps} {ds:List D} {rs:List Nat}:Tqs h [] ds rs↔ds=[]∧rs=[]:=by rw [Tqs]
theorem Tqs_cons {h:Hps} {k:Tm} {t:List Tm} {ds:List D} {rs:List Nat}:Tqs h (k::t) ds rs↔∃ d dt r1 r2,ds=d::dt∧rs=r1++r2∧Tq h k d r1∧Tqs h t dt r2:=by rw [Tqs]
theorem Tq_eq {h:Hps} {t:Tm} {d:D} {rs:List Nat}:Tq h t d rs ↔ (t.kids.nil=true∧t.kids.full=false∧t.kids.sp=[]∧t.levels.nil=true∧t.levels.full=false∧t.levels.sp=[])∧∃ lv kd rl rk,d = .agg [.int .i64 t.form,.int .i64 t.n,.bool t.hid,.str t.name,lv,kd]∧rs=rl++rk∧Lq h t.levels.el lv rl ∧ ((t.kids.el=[]∧kd = .nils∧rk=[])∨∃ r ds rt,t.kids.el≠[]∧kd = .ms 6 r 0 t.kids.el.length false∧rk=r::rt∧getO h r = .row 6 ds∧Tqs h t.kids.el ds rt):=by
  cases t with
  | mk f n hid nm ls nil full ks sp=>rw [Tq]; exact Iff.rfl
theorem Sl.eta_app {α:Type} {s:Sl α} (h1:s.nil=true) (h2:s.full=false) (h3:s.sp=[]):Sl.app s.el=s:=by
  obtain ⟨a,b,c,d⟩:=s
  have e1:a=true:=h1
  have e2:b=false:=h2
  have e3:d=[]:=h3
  rw [e1,e2,e3]; rfl
def rowD (rs:List Nat) (d:D):Prop:=d = .nils∨∃ k r len,r∈rs∧d = .ms k r 0 len false
theorem Lq.row {h:Hps} {ls:List SLev} {d:D} {rs:List Nat} (H:Lq h ls d rs):rowD rs d:=by
  rcases H with ⟨_,rfl,_⟩ | ⟨r,_,rfl,rfl,_⟩
  · exact .inl rfl
  · exact .inr ⟨_,r,_,by simp,rfl⟩
theorem rowD.mono {rs rs':List Nat} {d:D} (H:rowD rs d) (hs:∀ r,r∈rs→r∈rs'):rowD rs' d:=by
  rcases H with h | ⟨k,r,len,hr,h⟩
  · exact .inl h
  · exact .inr ⟨k,r,len,hs r hr,h⟩
theorem Tq.form {h:Hps} {t:Tm} {d:D} {rs:List Nat} (H:Tq h t d rs):∃ lv kd,d = .agg [.int .i64 t.form,.int .i64 t.n,.bool t.hid,.str t.name,lv,kd]∧rowD rs lv∧rowD rs kd:=by
  obtain ⟨_,lv,kd,rl,rk,rfl,rfl,HL,HK⟩:=Tq_eq.1 H
  refine ⟨lv,kd,rfl,HL.row.mono (fun r hr=>by simp [hr]),?_⟩
  rcases HK with ⟨_,rfl,_⟩ | ⟨r,ds,rt,_,rfl,rfl,_,_⟩
  · exact .inl rfl
  · exact .inr ⟨_,r,_,by simp,rfl⟩
theorem rowD.inD {p:Nat→Bool} {f:Nat} {rs:List Nat} {d:D} (H:rowD rs d) (hp:∀ r,r∈rs→p r=true):Ytdijijblccmfbaa.inD p (f+1) d=true:=by
  rcases H with rfl | ⟨k,r,len,hr,rfl⟩
  · rfl
  · exact hp r hr
theorem rowD.low {m f:Nat} {rs:List Nat} {d:D} (H:rowD rs d) (hp:∀ r,r∈rs→r < m):hasR m (f+1) d=false:=by
  rcases H with rfl | ⟨k,r,len,hr,rfl⟩
  · rfl
  · exact ble_f (hp r hr)
theorem Tq.inD {p:Nat→Bool} {h:Hps} {t:Tm} {d:D} {rs:List Nat} (H:Tq h t d rs) (hp:∀ r,r∈rs→p r=true) (f:Nat):Ytdijijblccmfbaa.inD p (f+2) d=true:=by
  obtain ⟨lv,kd,rfl,a,b⟩:=H.form
  rw [in_agg,List.all_cons,List.all_cons,List.all_cons,List.all_cons,List.all_cons,List.all_cons,List.all_nil,a.inD hp,b.inD hp]
  rfl
theorem Tq.low {m:Nat} {h:Hps} {t:Tm} {d:D} {rs:List Nat} (H:Tq h t d rs) (hp:∀ r,r∈rs→r < m):Ytdijijblccmfbaa.low m d:=by
  obtain ⟨lv,kd,rfl,a,b⟩:=H.form
  exact low_agg (fun x hx=>by
    rcases List.mem_cons.1 hx with rfl | hx
    · rfl
    rcases List.mem_cons.1 hx with rfl | hx
    · rfl
    rcases List.mem_cons.1 hx with rfl | hx
    · rfl
    rcases List.mem_cons.1 hx with rfl | hx
    · rfl
    rcases List.mem_cons.1 hx with rfl | hx
    · exact a.low hp
    · rw [List.mem_singleton.1 hx]; exact b.low hp)
theorem Lq.frz {h:Hps} {ls:List SLev} {d:D} {rs:List Nat} {n0:Nat} (H:Lq h ls d rs) (hn:∀ r,r∈rs→n0≤r) (f:Nat) (hf:3≤f):Ytdijijblccmfbaa.frz h n0 f d=slD 2 encL (Sl.app ls):=by
  rcases H with ⟨rfl,rfl,rfl⟩ | ⟨r,hne,rfl,rfl,hg⟩
  · obtain ⟨g,rfl⟩:∃ g,f=g+1:=⟨f - 1,by omega⟩
    rfl
  · exact (Fz.bld elemL (.inr ⟨r,hne,hn r (by simp),rfl,hg⟩)).frz f hf
theorem elemT:ElemOk 6 encT:=⟨fun c=>by rw [encT_eq]; simp [flat2_agg,flat1_slD,flat1_int,flat1_str,show flat1 (.bool c.hid)=true from rfl],fun c=>by
  show Bool.and (okF 6 (encT c)) (clo 20 (encT c))=true
  rw [encT_eq]
  show Bool.and true (allL (clo 19) [.int .i64 c.form,.int .i64 c.n,.bool c.hid,.str c.name,slD 2 encL c.levels,slD 6 encT c.kids])=true
  rw [allL_eq]
  simp [clo_slD]
  exact ⟨rfl,rfl,rfl,rfl⟩⟩
theorem Tqs.len {h:Hps}:∀ {ks:List Tm} {ds:List D} {rs:List Nat},Tqs h ks ds rs→ds.length=ks.length
  | [],ds,rs,H=>by rw [(Tqs_nil.1 H).1]; rfl
  | k::t,ds,rs,H=>by
    obtain ⟨d,dt,r1,r2,rfl,rfl,_,Ht⟩:=Tqs_cons.1 H
    rw [List.length_cons,List.length_cons,Ht.len]
theorem Tqs.frz {h:Hps} {n0 f:Nat}:∀ {ks:List Tm} {ds:List D} {rs:List Nat},Tqs h ks ds rs → (∀ k,k∈ks→∀ d rs,Tq h k d rs → (∀ r,r∈rs→n0≤r)→Ytdijijblccmfbaa.frz h n0 f d=encT k) → (∀ r,r∈rs→n0≤r)→ds.map (Ytdijijblccmfbaa.frz h n0 f)=ks.map encT
  | [],ds,rs,H,_,_=>by rw [(Tqs_nil.1 H).1]; rfl
  | k::t,ds,rs,H,hk,hn=>by
    obtain ⟨d,dt,r1,r2,rfl,rfl,H1,Ht⟩:=Tqs_cons.1 H
    rw [List.map_cons,List.map_cons,hk k (by simp) d r1 H1 (fun r hr=>hn r (by simp [hr])),Ht.frz (fun k hk'=>hk k (by simp [hk'])) (fun r hr=>hn r (by simp [hr]))]
theorem Tq.frz {h:Hps} {n0:Nat}:∀ t:Tm,∀ d rs,Tq h t d rs → (∀ r,r∈rs→n0≤r)→∀ f,2*highT t.abs+3≤f→Ytdijijblccmfbaa.frz h n0 f d=encT t:=by
  refine Tm.ind ?_
  intro t ih d rs H hn f hf
  obtain ⟨⟨k1,k2,k3,l1,l2,l3⟩,lv,kd,rl,rk,rfl,rfl,HL,HK⟩:=Tq_eq.1 H
  have hp:=highT_pos t.abs
  obtain ⟨g,rfl⟩:∃ g,f=g+4:=⟨f - 4,by omega⟩
  have e1:Ytdijijblccmfbaa.frz h n0 (g+3) lv=slD 2 encL t.levels:=by
    rw [HL.frz (fun r hr=>hn r (by simp [hr])) (g+3) (by omega),Sl.eta_app l1 l2 l3]
  have e2:Ytdijijblccmfbaa.frz h n0 (g+3) kd=slD 6 encT t.kids:=by
    have e:=Sl.eta_app k1 k2 k3
    rcases HK with ⟨hk,rfl,rfl⟩ | ⟨r,ds,rt,hk,rfl,rfl,hg,HT⟩
    · rw [hk] at e
      rw [← e]; rfl
    · have hks:=HT.frz (n0:=n0) (f:=g+2) (fun k hk d rs Hk hr=>ih k hk d rs Hk hr (g+2) (by have:=high_kid hk; omega)) (fun r hr=>hn r (by simp [hr]))
      have hl:=HT.len
      rw [← e]
      show Bool.rec (motive:=fun _=>D) (frzO (Ytdijijblccmfbaa.frz h n0 (g+2)) 6 0 t.kids.el.length false (getO h r)) (.ms 6 r 0 t.kids.el.length false) (Nat.blt r n0)=_
      have hr:=hn r (by simp)
      rw [blt_iff,decide_eq_false (by omega),hg]
      show Bool.rec (motive:=fun _=>D) .junk (frzS 6 (mapL (Ytdijijblccmfbaa.frz h n0 (g+2)) (takeL t.kids.el.length (dropL 0 ds))) (dropL (0+t.kids.el.length) ds) false) (Bool.and (Nat.beq 6 6) (Nat.ble (0+t.kids.el.length) (lenL ds)))=_
      rw [Nat.beq_refl,lenL_eq,hl,Nat.zero_add,ble_iff,decide_eq_true (Nat.le_refl _),takeL_eq,dropL_eq,dropL_eq,List.drop_zero,List.take_of_length_le (by rw [hl]; exact Nat.le_refl _),mapL_eq,hks,List.drop_of_length_le (by rw [hl]; exact Nat.le_refl _)]
      show frzS 6 (t.kids.el.map encT) [] false=_
      unfold frzS
      rw [spareK_nil]
      have h2:allL (okE 6) (t.kids.el.map encT)=true:=by
        rw [allL_eq,List.all_eq_true]
        intro d hd
        obtain ⟨x,_,rfl⟩:=List.mem_map.1 hd
        exact elemT.ok x
      rw [h2]
      unfold slD Sl.app
      cases he:t.kids.el with
      | nil=>exact absurd he hk
      | cons a l=>rfl
  rw [encT_eq]
  show D.agg [.int .i64 t.form,.int .i64 t.n,.bool t.hid,.str t.name,Ytdijijblccmfbaa.frz h n0 (g+3) lv,Ytdijijblccmfbaa.frz h n0 (g+3) kd]=_
  rw [e1,e2]
theorem rf_L {h:Hps} {f:Nat} (x:SLev):rf h (f+2) (encL x)=[]:=by
  show appN [] (appN (rf h (f+1) (slD 2 encV x.vs)) [])=[]
  rcases slD_isSl 2 encV x.vs with ⟨h1,_⟩ | ⟨_,_,h1⟩ <;> rw [h1] <;> rfl
theorem rfL_L {h:Hps} {f:Nat}:∀ ls:List SLev,rfL (rf h (f+2)) (ls.map encL)=[]
  | []=>rfl
  | x::t=>by rw [List.map_cons,rfL_cons,rf_L,rfL_L t]; rfl
theorem Lq.rf {h:Hps} {ls:List SLev} {d:D} {rs:List Nat} (H:Lq h ls d rs) (f:Nat):Ytdijijblccmfbaa.rf h (f+3) d=rs:=by
  rcases H with ⟨rfl,rfl,rfl⟩ | ⟨r,hne,rfl,rfl,hg⟩
  · rfl
  · show r::rfM (Ytdijijblccmfbaa.rf h (f+2)) 0 ls.length (getO h r)=_
    rw [hg]
    show r::rfL (Ytdijijblccmfbaa.rf h (f+2)) (takeL ls.length (dropL 0 (ls.map encL)))=_
    rw [takeL_eq,dropL_eq,List.drop_zero,List.take_of_length_le (by simp),rfL_L]
theorem Tqs.rf {h:Hps} {f:Nat}:∀ {ks:List Tm} {ds:List D} {rs:List Nat},Tqs h ks ds rs → (∀ k,k∈ks→∀ d rs,Tq h k d rs→Ytdijijblccmfbaa.rf h f d=rs)→rfL (Ytdijijblccmfbaa.rf h f) ds=rs
  | [],ds,rs,H,_=>by rw [(Tqs_nil.1 H).1,(Tqs_nil.1 H).2]; rfl
  | k::t,ds,rs,H,hk=>by
    obtain ⟨d,dt,r1,r2,rfl,rfl,H1,Ht⟩:=Tqs_cons.1 H
    rw [rfL_cons,hk k (by simp) d r1 H1,Ht.rf (fun k hk'=>hk k (by simp [hk'])),appN_eq]
theorem Tq.rf {h:Hps}:∀ t:Tm,∀ d rs,Tq h t d rs→∀ f,2*highT t.abs+3≤f→Ytdijijblccmfbaa.rf h f d=rs:=by
  refine Tm.ind ?_
  intro t ih d rs H f hf
  obtain ⟨_,lv,kd,rl,rk,rfl,rfl,HL,HK⟩:=Tq_eq.1 H
  have hp:=highT_pos t.abs
  obtain ⟨g,rfl⟩:∃ g,f=g+4:=⟨f - 4,by omega⟩
  have e2:Ytdijijblccmfbaa.rf h (g+3) kd=rk:=by
    rcases HK with ⟨hk,rfl,rfl⟩ | ⟨r,ds,rt,hk,rfl,rfl,hg,HT⟩
    · rfl
    · have hl:=HT.len
      show r::rfM (Ytdijijblccmfbaa.rf h (g+2)) 0 t.kids.el.length (getO h r)=_
      rw [hg]
      show r::rfL (Ytdijijblccmfbaa.rf h (g+2)) (takeL t.kids.el.length (dropL 0 ds))=_
      rw [takeL_eq,dropL_eq,List.drop_zero,List.take_of_length_le (by rw [hl]; exact Nat.le_refl _),HT.rf (fun k hk d rs Hk=>ih k hk d rs Hk (g+2) (by have:=high_kid hk; omega))]
  show appN [] (appN [] (appN [] (appN [] (appN (Ytdijijblccmfbaa.rf h (g+3) lv) (appN (Ytdijijblccmfbaa.rf h (g+3) kd) [])))))=_
  rw [HL.rf g,e2]
  simp [appN_eq]
theorem Lq.congr {h h':Hps} {ls:List SLev} {d:D} {rs:List Nat} (H:Lq h ls d rs) (he:∀ r,r∈rs→getO h' r=getO h r):Lq h' ls d rs:=by
  rcases H with H | ⟨r,hne,rfl,rfl,hg⟩
  · exact .inl H
  · exact .inr ⟨r,hne,rfl,rfl,by rw [he r (by simp)]; exact hg⟩
theorem Tqs.congr {h h':Hps}:∀ {ks:List Tm} {ds:List D} {rs:List Nat},Tqs h ks ds rs → (∀ k,k∈ks→∀ d rs,Tq h k d rs → (∀ r,r∈rs→getO h' r=getO h r)→Tq h' k d rs) → (∀ r,r∈rs→getO h' r=getO h r)→Tqs h' ks ds rs
  | [],ds,rs,H,_,_=>Tqs_nil.2 (Tqs_nil.1 H)
  | k::t,ds,rs,H,hk,hn=>by
    obtain ⟨d,dt,r1,r2,rfl,rfl,H1,Ht⟩:=Tqs_cons.1 H
    exact Tqs_cons.2 ⟨d,dt,r1,r2,rfl,rfl,hk k (by simp) d r1 H1 (fun r hr=>hn r (by simp [hr])),Ht.congr (fun k hk'=>hk k (by simp [hk'])) (fun r hr=>hn r (by simp [hr]))⟩
theorem Tq.congr {h h':Hps}:∀ t:Tm,∀ d rs,Tq h t d rs → (∀ r,r∈rs→getO h' r=getO h r)→Tq h' t d rs:=by
  refine Tm.ind ?_
  intro t ih d rs H he
  obtain ⟨hn,lv,kd,rl,rk,rfl,rfl,HL,HK⟩:=Tq_eq.1 H
  refine Tq_eq.2 ⟨hn,lv,kd,rl,rk,rfl,rfl,HL.congr (fun r hr=>he r (by simp [hr])),?_⟩
  rcases HK with HK | ⟨r,ds,rt,hk,rfl,rfl,hg,HT⟩
  · exact .inl HK
  · exact .inr ⟨r,ds,rt,hk,rfl,rfl,by rw [he r (by simp)]; exact hg,HT.congr (fun k hk d rs=>ih k hk d rs) (fun r hr=>he r (by simp [hr]))⟩
theorem Tqs.congr' {h h':Hps} {ks:List Tm} {ds:List D} {rs:List Nat} (H:Tqs h ks ds rs) (he:∀ r,r∈rs→getO h' r=getO h r):Tqs h' ks ds rs:=H.congr (fun k _ d rs=>Tq.congr k d rs) he
theorem Tqs.app {h:Hps} {k:Tm} {d:D} {r2:List Nat} (H2:Tq h k d r2):∀ {ks:List Tm} {ds:List D} {rs:List Nat},Tqs h ks ds rs→Tqs h (ks++[k]) (ds++[d]) (rs++r2)
  | [],ds,rs,H=>by
    rw [(Tqs_nil.1 H).1,(Tqs_nil.1 H).2]
    exact Tqs_cons.2 ⟨d,[],r2,[],rfl,(List.append_nil _).symm,H2,Tqs_nil.2 ⟨rfl,rfl⟩⟩
  | k'::t,ds,rs,H=>by
    obtain ⟨d',dt,r1,r3,rfl,rfl,H1,Ht⟩:=Tqs_cons.1 H
    exact Tqs_cons.2 ⟨d',dt++[d],r1,r3++r2,rfl,List.append_assoc _ _ _,H1,Tqs.app H2 Ht⟩
def RowOk (h:Hps) (rs:List Nat) (o:Ob):Prop := (∃ ls:List SLev,o = .row 2 (ls.map encL))∨∃ ds,o = .row 6 ds∧∀ e,e∈ds→∃ T r1,Tq h T e r1∧∀ r,r∈r1→r∈rs
theorem RowOk.mono {h:Hps} {rs rs':List Nat} {o:Ob} (H:RowOk h rs o) (hs:∀ r,r∈rs→r∈rs'):RowOk h rs' o:=by
  rcases H with H | ⟨ds,e,H⟩
  · exact .inl H
  · exact .inr ⟨ds,e,fun x hx=>by obtain ⟨T,r1,a,b⟩:=H x hx; exact ⟨T,r1,a,fun r hr=>hs r (b r hr)⟩⟩
theorem Tqs.mem {h:Hps}:∀ {ks:List Tm} {ds:List D} {rs:List Nat},Tqs h ks ds rs → (∀ e,e∈ds→∃ T,T∈ks∧∃ r1,Tq h T e r1∧∀ r,r∈r1→r∈rs)∧∀ r,r∈rs→∃ T,T∈ks∧∃ e r1,Tq h T e r1∧r∈r1∧∀ q,q∈r1→q∈rs
  | [],ds,rs,H=>by rw [(Tqs_nil.1 H).1,(Tqs_nil.1 H).2]; exact ⟨fun e he => (by cases he),fun r hr => (by cases hr)⟩
  | k::t,ds,rs,H=>by
    obtain ⟨d,dt,r1,r2,rfl,rfl,H1,Ht⟩:=Tqs_cons.1 H
    obtain ⟨a,b⟩:=Ht.mem
    refine ⟨fun e he=>?_,fun r hr=>?_⟩
    · rcases List.mem_cons.1 he with rfl | he
      · exact ⟨k,by simp,r1,H1,fun r hr=>by simp [hr]⟩
      · obtain ⟨T,hT,r3,c,c2⟩:=a e he
        exact ⟨T,by simp [hT],r3,c,fun r hr=>by simp [c2 r hr]⟩
    · rcases List.mem_append.1 hr with hr | hr
      · exact ⟨k,by simp,d,r1,H1,hr,fun q hq=>by simp [hq]⟩
      · obtain ⟨T,hT,e,r3,c,c2,c3⟩:=b r hr
        exact ⟨T,by simp [hT],e,r3,c,c2,fun q hq=>by simp [c3 q hq]⟩
theorem Tq.rows {h:Hps}:∀ t:Tm,∀ d rs,Tq h t d rs→∀ r,r∈rs→RowOk h rs (getO h r):=by
  refine Tm.ind ?_
  intro t ih d rs H r hr
  obtain ⟨hn,lv,kd,rl,rk,rfl,rfl,HL,HK⟩:=Tq_eq.1 H
  rcases List.mem_append.1 hr with hr | hr
  · rcases HL with ⟨_,_,rfl⟩ | ⟨q,_,_,rfl,hg⟩
    · cases hr
    · rw [List.mem_singleton.1 hr,hg]
      exact .inl ⟨_,rfl⟩
  · rcases HK with ⟨_,_,rfl⟩ | ⟨q,ds,rt,hk,rfl,rfl,hg,HT⟩
    · cases hr
    · obtain ⟨a,b⟩:=HT.mem
      rcases List.mem_cons.1 hr with rfl | hr
      · rw [hg]
        exact .inr ⟨ds,rfl,fun e he=>by obtain ⟨T,_,r1,c,c2⟩:=a e he; exact ⟨T,r1,c,fun r hr=>by simp [c2 r hr]⟩⟩
      · obtain ⟨T,hT,e,r3,c,c2,c3⟩:=b r hr
        exact (ih T hT e r3 c r c2).mono (fun q hq=>by simp [c3 q hq])
theorem Lq.rows {h:Hps} {ls:List SLev} {d:D} {rs:List Nat} (H:Lq h ls d rs):∀ r,r∈rs→RowOk h rs (getO h r):=by
  intro r hr
  rcases H with ⟨_,_,rfl⟩ | ⟨q,_,_,rfl,hg⟩
  · cases hr
  · rw [List.mem_singleton.1 hr,hg]
    exact .inl ⟨_,rfl⟩
theorem in_L {p:Nat→Bool} (x:SLev):inD p 20 (encL x)=true:=by
  show inD p 20 (.agg [.int .i64 x.n,slD 2 encV x.vs])=true
  rw [in_agg,List.all_cons,List.all_cons,List.all_nil,in_slD]; rfl
theorem RowOk.inD {p:Nat→Bool} {h:Hps} {rs:List Nat} {o:Ob} (H:RowOk h rs o) (hp:∀ r,r∈rs→p r=true):∃ k es,o = .row k es∧allL (Ytdijijblccmfbaa.inD p 20) es=true:=by
  rcases H with ⟨ls,rfl⟩ | ⟨ds,rfl,H⟩
  · refine ⟨2,_,rfl,?_⟩
    rw [allL_eq,List.all_eq_true]
    intro x hx
    obtain ⟨y,_,rfl⟩:=List.mem_map.1 hx
    exact in_L y
  · refine ⟨6,_,rfl,?_⟩
    rw [allL_eq,List.all_eq_true]
    intro x hx
    obtain ⟨T,r1,a,b⟩:=H x hx
    exact a.inD (fun r hr=>hp r (b r hr)) 18
theorem RowOk.low {m:Nat} {h:Hps} {rs:List Nat} {o:Ob} (H:RowOk h rs o) (hp:∀ r,r∈rs→r < m):lowO m o:=by
  rcases H with ⟨ls,rfl⟩ | ⟨ds,rfl,H⟩
  · exact lowO_map (lowL m)
  · exact lowO_row (fun x hx=>by
      obtain ⟨T,r1,a,b⟩:=H x hx
      exact a.low (fun r hr=>hp r (b r hr)))
theorem rn_L {n0 f:Nat} {l:List Nat} (x:SLev):rn n0 l (f+2) (encL x)=encL x:=by
  show D.agg [.int .i64 x.n,rn n0 l (f+1) (slD 2 encV x.vs)] = .agg [.int .i64 x.n,slD 2 encV x.vs]
  rcases slD_isSl 2 encV x.vs with ⟨h1,_⟩ | ⟨_,_,h1⟩ <;> rw [h1] <;> rfl
theorem rn_ms {n0 f k r len:Nat} {l:List Nat} (hr:n0≤r):rn n0 l (f+1) (.ms k r 0 len false) = .ms k (n0+idxN l r) 0 len false:=by
  show Bool.rec (motive:=fun _=>D) (.ms k (n0+idxN l r) 0 len false) (.ms k r 0 len false) (Nat.blt r n0)=_
  rw [blt_iff,decide_eq_false (by omega)]
theorem rnO_L {n0:Nat} {l:List Nat} (ls:List SLev):rnO n0 l (.row 2 (ls.map encL)) = .row 2 (ls.map encL):=by
  show Ob.row 2 (mapL (rn n0 l 20) (ls.map encL))=_
  rw [mapL_eq,List.map_map]
  congr 1
  exact List.map_congr_left (fun x _=>rn_L (f:=18) x)
theorem Lq.rn {h h':Hps} {n0 f:Nat} {l:List Nat} {ls:List SLev} {d:D} {rs:List Nat} (H:Lq h ls d rs) (hn:∀ r,r∈rs→n0≤r) (he:∀ r,r∈rs→getO h' (n0+idxN l r)=rnO n0 l (getO h r)):Lq h' ls (Ytdijijblccmfbaa.rn n0 l (f+1) d) (rs.map (fun r=>n0+idxN l r)):=by
  rcases H with ⟨rfl,rfl,rfl⟩ | ⟨r,hne,rfl,rfl,hg⟩
  · exact .inl ⟨rfl,rfl,rfl⟩
  · exact .inr ⟨n0+idxN l r,hne,rn_ms (hn r (by simp)),rfl,by rw [he r (by simp),hg]; exact rnO_L ls⟩
theorem Tqs.rn {h h':Hps} {n0:Nat} {l:List Nat}:∀ {ks:List Tm} {ds:List D} {rs:List Nat},Tqs h ks ds rs → (∀ k,k∈ks→∀ d rs,Tq h k d rs → (∀ r,r∈rs→n0≤r) → (∀ r,r∈rs→getO h' (n0+idxN l r)=rnO n0 l (getO h r))→Tq h' k (Ytdijijblccmfbaa.rn n0 l 20 d) (rs.map (fun r=>n0+idxN l r))) → (∀ r,r∈rs→n0≤r) → (∀ r,r∈rs→getO h' (n0+idxN l r)=rnO n0 l (getO h r))→Tqs h' ks (ds.map (Ytdijijblccmfbaa.rn n0 l 20)) (rs.map (fun r=>n0+idxN l r))
  | [],ds,rs,H,_,_,_=>by rw [(Tqs_nil.1 H).1,(Tqs_nil.1 H).2]; exact Tqs_nil.2 ⟨rfl,rfl⟩
  | k::t,ds,rs,H,hk,hn,he=>by
    obtain ⟨d,dt,r1,r2,rfl,rfl,H1,Ht⟩:=Tqs_cons.1 H
    exact Tqs_cons.2 ⟨_,_,_,_,List.map_cons,List.map_append,hk k (by simp) d r1 H1 (fun r hr=>hn r (by simp [hr])) (fun r hr=>he r (by simp [hr])),Ht.rn (fun k hk'=>hk k (by simp [hk'])) (fun r hr=>hn r (by simp [hr])) (fun r hr=>he r (by simp [hr]))⟩
theorem Tq.rn {h h':Hps} {n0:Nat} {l:List Nat}:∀ t:Tm,∀ d rs,Tq h t d rs → (∀ r,r∈rs→n0≤r) → (∀ r,r∈rs→getO h' (n0+idxN l r)=rnO n0 l (getO h r))→∀ f,Tq h' t (Ytdijijblccmfbaa.rn n0 l (f+2) d) (rs.map (fun r=>n0+idxN l r)):=by
  refine Tm.ind ?_
  intro t ih d rs H hn he f
  obtain ⟨hq,lv,kd,rl,rk,rfl,rfl,HL,HK⟩:=Tq_eq.1 H
  refine Tq_eq.2 ⟨hq,Ytdijijblccmfbaa.rn n0 l (f+1) lv,Ytdijijblccmfbaa.rn n0 l (f+1) kd,rl.map _,rk.map _,rfl,List.map_append,HL.rn (f:=f) (fun r hr=>hn r (by simp [hr])) (fun r hr=>he r (by simp [hr])),?_⟩
  rcases HK with ⟨hk,rfl,rfl⟩ | ⟨r,ds,rt,hk,rfl,rfl,hg,HT⟩
  · exact .inl ⟨hk,rfl,rfl⟩
  · refine .inr ⟨n0+idxN l r,ds.map (Ytdijijblccmfbaa.rn n0 l 20),rt.map _,hk,rn_ms (hn r (by simp)),List.map_cons,?_,HT.rn (fun k hk d rs a b c=>ih k hk d rs a b c 18) (fun r hr=>hn r (by simp [hr])) (fun r hr=>he r (by simp [hr]))⟩
    rw [he r (by simp),hg]
    show Ob.row 6 (mapL (Ytdijijblccmfbaa.rn n0 l 20) ds)=_
    rw [mapL_eq]
theorem Lq.len {h:Hps} {ls:List SLev} {d:D} {rs:List Nat} (H:Lq h ls d rs):rs.length≤1:=by
  rcases H with ⟨_,_,rfl⟩ | ⟨r,_,_,rfl,_⟩ <;> simp
end Go.Proofs.Ytdijijblccmfbaa
