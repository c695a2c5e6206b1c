/- What a function that keeps its result hands back, where that is levels, a term, or a term with a number; what writes over rows. No condition but height. -/
import Derived.Test.YtdijijblccmfbaaVA
set_option linter.unusedSimpArgs false
set_option linter.unusedVariables false
namespace Go.Proofs.Ytdijijblccmfbaa
open Go

theorem fromN_self {n0:Nat}:∀ {l:List Nat},l.Nodup → (∀ r,r∈l→n0≤r)→fromN n0 l=l
  | [],_,_=>rfl
  | a::t,hd,hn=>by
    obtain ⟨h1,h2⟩:=List.nodup_cons.1 hd
    have ha:=hn a (by simp)
    have e1:Nat.blt a n0=false:=by rw [blt_iff,decide_eq_false (by omega)]
    have e2:memN a t=false:=by cases e:memN a t with | false=>rfl | true=>exact absurd (memN_true e) h1
    have e3:=fromN_self h2 (fun r hr=>hn r (by simp [hr]))
    show Bool.rec (motive:=fun _=>List Nat) (Bool.rec (motive:=fun _=>List Nat) (a::fromN n0 t) (fromN n0 t) (memN a (fromN n0 t))) (fromN n0 t) (Nat.blt a n0)=_
    rw [e3,e1,e2]
structure Kq (n0:Nat) (h0:Hps) (n2:Nat) (h':Hps) (rs:List Nat):Prop where
  nd:rs.Nodup
  ge:∀ r,r∈rs→n0≤r∧r < n2
  hp:Hp n0 h0 n2 h'
  own:∀ p,p∈h'→n0≤p.1→∀ P:Nat→Bool,(∀ r,n0≤r→P r=true)→inO P p.2=true
theorem newH_mem {n0:Nat} {l:List Nat} {h h0:Hps} {p:Nat×Ob}:∀ {l2:List Nat} {n:Nat},p∈newH n0 l h h0 l2 n → (∃ r m,r∈l2∧n≤m∧m < n+l2.length∧p = (m,rnO n0 l (getO h r)))∨p∈h0
  | [],n,hp => .inr hp
  | r::l2,n,hp=>by
    rcases List.mem_cons.1 (show p ∈ (n,rnO n0 l (getO h r))::newH n0 l h h0 l2 (n+1) from hp) with rfl | hp
    · exact .inl ⟨r,n,by simp,Nat.le_refl _,by simp,rfl⟩
    · rcases newH_mem hp with ⟨r',m,a,b,c,e⟩ | h
      · exact .inl ⟨r',m,by simp [a],by omega,by simp; omega,e⟩
      · exact .inr h
theorem newH_drop {n0:Nat} {l:List Nat} {h h0:Hps}:∀ {l2:List Nat} {n:Nat},n0≤n→dropFrom n0 (newH n0 l h h0 l2 n)=dropFrom n0 h0∧leak n0 (newH n0 l h h0 l2 n)=leak n0 h0
  | [],n,hn=>⟨rfl,rfl⟩
  | r::l2,n,hn=>by
    obtain ⟨a,b⟩:=newH_drop (n0:=n0) (l:=l) (h:=h) (h0:=h0) (l2:=l2) (n:=n+1) (by omega)
    exact ⟨(drop_new hn).trans a,(leak_new hn).trans b⟩
theorem allN_all {p:Nat→Bool}:∀ {S:List Nat},(∀ r,r∈S→p r=true)→allN p S=true
  | [],_=>rfl
  | a::t,h=>by
    show Bool.and (p a) (allN p t)=true
    rw [h a (by simp),allN_all (fun r hr=>h r (by simp [hr]))]; rfl
theorem keep_core {n0 n:Nat} {h h0:Hps} {d:D} {l:List Nat} (H:Hp n0 h0 n h) (hg:Gd n0 h0) (hrf:rf h 5000 d=l) (hnd:l.Nodup) (hn:∀ r,r∈l→n0≤r) (hrow:∀ r,r∈l→RowOk h l (getO h r)) (hin:inD (fun r=>Bool.or (Nat.blt r n0) (memN r l)) 20 d=true)
    (hpost:∀ h',(∀ r,r∈l→getO h' (n0+idxN l r)=rnO n0 l (getO h r))→hasJ 20 (rn n0 l 20 d)=false∧∀ r,r∈l→RowOk h' (l.map (fun r=>n0+idxN l r)) (getO h' (n0+idxN l r))) :
    ∃ h',keepD n0 n h d = .ok (rn n0 l 20 d) (n0+l.length) h' ∧ (∀ r,r∈l→getO h' (n0+idxN l r)=rnO n0 l (getO h r))∧Kq n0 h0 (n0+l.length) h' (l.map (fun r=>n0+idxN l r)):=by
  have hget:∀ r,r∈l→getO (newH n0 l h h0 l n0) (n0+idxN l r)=rnO n0 l (getO h r):=fun r hr=>by
    obtain ⟨a,b⟩:=idxN_lt hr
    rw [getO_newH,if_pos ⟨Nat.le_add_right _ _,by omega⟩,Nat.add_sub_cancel_left,b]
  obtain ⟨hj,hrows⟩:=hpost _ hget
  have hmp:∀ q,q∈l.map (fun r=>n0+idxN l r)→n0≤q∧q < n0+l.length:=fun q hq=>by
    obtain ⟨r,hr,rfl⟩:=List.mem_map.1 hq
    have := (idxN_lt hr).1
    omega
  have hdl:=newH_drop (n0:=n0) (l:=l) (h:=h) (h0:=h0) (l2:=l) (n:=n0) (Nat.le_refl _)
  refine ⟨newH n0 l h h0 l n0,?_,hget,?_,hmp,⟨Nat.le_add_right _ _,?_,hdl.1.trans (good_drop (hg n0 (Nat.le_refl _))),hdl.2.trans (good_leak (hg n0 (Nat.le_refl _)))⟩,?_⟩
  · have c1:allN (fun r=>Bool.and (Nat.ble n0 r) (openO n0 l (getO h r))) l=true:=allN_all (fun r hr=>by
      obtain ⟨k,es,e,ha⟩ := (hrow r hr).inD (p:=fun r=>Bool.or (Nat.blt r n0) (memN r l)) (fun r hr=>by
        show Bool.or (Nat.blt r n0) (memN r l)=true
        rw [memN_of hr]; cases Nat.blt r n0 <;> rfl)
      show Bool.and (Nat.ble n0 r) (openO n0 l (getO h r))=true
      rw [e]
      show Bool.and (Nat.ble n0 r) (allL (inD (fun r=>Bool.or (Nat.blt r n0) (memN r l)) 20) es)=true
      rw [ha,ble_iff,decide_eq_true (hn r hr)]; rfl)
    unfold keepD
    rw [hrf,fromN_self hnd hn]
    unfold keepL
    rw [c1,hin,hj,H.leak,H.drop,lenN_eq]
    rfl
  · show List.Pairwise _ _
    rw [List.pairwise_map]
    refine List.Pairwise.imp_of_mem (fun {a b} ha hb hab e=>hab ?_) hnd
    have e2:idxN l a=idxN l b:=by omega
    rw [← (idxN_lt ha).2,← (idxN_lt hb).2,e2]
  · intro k hk p hp
    rcases newH_mem hp with ⟨r,m,hr,h1,h2,rfl⟩ | hp
    · refine ⟨by show m < k; omega,?_⟩
      show lowO k (rnO n0 l (getO h r))
      have := (hrows r hr).low (m:=k) (fun q hq=>by have:=hmp q hq; omega)
      rw [hget r hr] at this
      exact this
    · have h1:=hg n0 (Nat.le_refl _) p hp
      exact ⟨by omega,(hg k (by omega) p hp).2⟩
  · intro p hp hq P hP
    rcases newH_mem hp with ⟨r,m,hr,h1,h2,rfl⟩ | hp
    · obtain ⟨k,es,e,ha⟩ := (hrows r hr).inD (p:=P) (fun q hq=>hP q (hmp q hq).1)
      rw [hget r hr] at e
      show inO P (rnO n0 l (getO h r))=true
      rw [e]
      exact ha
    · have h1 := (hg n0 (Nat.le_refl _) p hp).1
      omega
theorem rowD.noJ {rs:List Nat} {d:D} {f:Nat} (H:rowD rs d):hasJ (f+1) d=false:=by
  rcases H with rfl | ⟨k,r,len,hr,rfl⟩ <;> rfl
theorem Tq.noJ {h:Hps} {t:Tm} {d:D} {rs:List Nat} (H:Tq h t d rs) (f:Nat):hasJ (f+2) d=false:=by
  obtain ⟨lv,kd,rfl,a,b⟩:=H.form
  show Bool.not (allL (fun d=>Bool.not (hasJ (f+1) d)) [.int .i64 t.form,.int .i64 t.n,.bool t.hid,.str t.name,lv,kd])=false
  rw [allL_eq,List.all_cons,List.all_cons,List.all_cons,List.all_cons,List.all_cons,List.all_cons,List.all_nil,a.noJ,b.noJ]
  rfl
section
variable {n0 n:Nat} {h h0:Hps}
theorem keep_lv {ls:List SLev} {d:D} {rs:List Nat} (H:Hp n0 h0 n h) (hg:Gd n0 h0) (T:Lq h ls d rs) (hn:∀ r,r∈rs→n0≤r):∃ d' h' rs',keepD n0 n h d = .ok d' (n0+rs.length) h'∧Lq h' ls d' rs'∧Kq n0 h0 (n0+rs.length) h' rs':=by
  have hnd:rs.Nodup:=by rcases T with ⟨_,_,rfl⟩ | ⟨r,_,_,rfl,_⟩ <;> simp
  obtain ⟨h',e1,e2,K⟩:=keep_core (d:=d) (l:=rs) H hg (T.rf 4997) hnd hn T.rows (T.row.inD (fun r hr=>by show Bool.or _ (memN r rs)=true; rw [memN_of hr]; cases Nat.blt r n0 <;> rfl)) (fun h' he=>by
    have T':=T.rn (h':=h') (f:=19) hn he
    exact ⟨T'.row.noJ,fun r hr=>T'.rows _ (List.mem_map.2 ⟨r,hr,rfl⟩)⟩)
  exact ⟨_,h',_,e1,T.rn (f:=19) hn e2,K⟩
theorem keep_tm {t:Tm} {d:D} {rs:List Nat} (H:Hp n0 h0 n h) (hg:Gd n0 h0) (T:Tq h t d rs) (hh:highT t.abs≤2000) (hnd:rs.Nodup) (hn:∀ r,r∈rs→n0≤r):∃ d' h' rs',keepD n0 n h d = .ok d' (n0+rs.length) h'∧Tq h' t d' rs'∧Kq n0 h0 (n0+rs.length) h' rs':=by
  obtain ⟨h',e1,e2,K⟩:=keep_core (d:=d) (l:=rs) H hg (Tq.rf t d rs T 5000 (by omega)) hnd hn (Tq.rows t d rs T) (T.inD (fun r hr=>by show Bool.or _ (memN r rs)=true; rw [memN_of hr]; cases Nat.blt r n0 <;> rfl) 18) (fun h' he=>by
    have T':=Tq.rn t d rs T (h':=h') hn he 18
    exact ⟨T'.noJ 18,fun r hr=>Tq.rows _ _ _ T' _ (List.mem_map.2 ⟨r,hr,rfl⟩)⟩)
  exact ⟨_,h',_,e1,Tq.rn t d rs T hn e2 18,K⟩
theorem keep_pair {t:Tm} {d:D} {rs:List Nat} {e:Int} (H:Hp n0 h0 n h) (hg:Gd n0 h0) (T:Tq h t d rs) (hh:highT t.abs≤2000) (hnd:rs.Nodup) (hn:∀ r,r∈rs→n0≤r):∃ d' h' rs',keepD n0 n h (.tup [d,.int .i64 e]) = .ok (.tup [d',.int .i64 e]) (n0+rs.length) h'∧Tq h' t d' rs'∧Kq n0 h0 (n0+rs.length) h' rs':=by
  have hrf:rf h 5000 (.tup [d,.int .i64 e])=rs:=by
    show appN (rf h 4999 d) (appN [] [])=rs
    rw [Tq.rf t d rs T 4999 (by omega),appN_eq]
    exact List.append_nil _
  have hin:inD (fun r=>Bool.or (Nat.blt r n0) (memN r rs)) 20 (.tup [d,.int .i64 e])=true:=by
    rw [in_tup,List.all_cons,List.all_cons,List.all_nil,T.inD (fun r hr=>by show Bool.or _ (memN r rs)=true; rw [memN_of hr]; cases Nat.blt r n0 <;> rfl) 17]
    rfl
  obtain ⟨h',e1,e2,K⟩:=keep_core (d := .tup [d,.int .i64 e]) (l:=rs) H hg hrf hnd hn (Tq.rows t d rs T) hin (fun h' he=>by
    have T':=Tq.rn t d rs T (h':=h') hn he 17
    refine ⟨?_,fun r hr=>Tq.rows _ _ _ T' _ (List.mem_map.2 ⟨r,hr,rfl⟩)⟩
    show Bool.not (allL (fun d=>Bool.not (hasJ 19 d)) [rn n0 rs 19 d,.int .i64 e])=false
    rw [allL_eq,List.all_cons,List.all_cons,List.all_nil,T'.noJ 17]
    rfl)
  exact ⟨_,h',_,e1,Tq.rn t d rs T hn e2 17,K⟩
end
inductive Ws (n:Nat) (rs:List Nat):Hps→Hps→Prop where
  | refl {h:Hps}:Ws n rs h h
  | step {h h':Hps} {r k k':Nat} {es es':List D}:Ws n rs h h'→r∈rs→getO h' r = .row k' es' → (∀ m,n≤m→lowO m (.row k es))→Ws n rs h (setO h' r (.row k es))
theorem Ws.trans {n:Nat} {rs:List Nat} {a b c:Hps} (H:Ws n rs a b) (K:Ws n rs b c):Ws n rs a c:=by
  induction K with
  | refl=>exact H
  | step _ hr hg hl ih=>exact ih.step hr hg hl
theorem Ws.mono {n n':Nat} {rs rs':List Nat} {a b:Hps} (H:Ws n rs a b) (hn:n≤n') (hs:∀ r,r∈rs→r∈rs'):Ws n' rs' a b:=by
  induction H with
  | refl=>exact .refl
  | step _ hr hg hl ih=>exact ih.step (hs _ hr) hg (fun m hm=>hl m (by omega))
theorem Ws.get {n q:Nat} {rs:List Nat} {a b:Hps} (H:Ws n rs a b) (hq:q ∉ rs):getO b q=getO a q:=by
  induction H with
  | refl=>rfl
  | step _ hr hg _ ih=>rw [getO_setO _ _ _ _ (by rw [hg]; simp),if_neg (fun e=>hq (by rw [e]; exact hr)),ih]
theorem Ws.hp {n n0 m:Nat} {rs:List Nat} {a b h0:Hps} (H:Ws n rs a b) (hn:∀ r,r∈rs→n0≤r) (hm:n≤m) (K:Hp n0 h0 m a):Hp n0 h0 m b:=by
  induction H with
  | refl=>exact K
  | step _ hr _ hl ih=>exact ih.set (hn _ hr) (fun k hk=>hl k (by omega))
theorem Ws.low {n n0 m:Nat} {rs:List Nat} {a b h0:Hps} (H:Ws n rs a b) (hn:∀ r,r∈rs→r < n0) (h1:n≤n0) (hm:n≤m) (K:Hp n0 h0 m a):∃ h1,Hp n0 h1 m b∧Ws n rs h0 h1:=by
  induction H with
  | refl=>exact ⟨h0,K,.refl⟩
  | step _ hr hg hl ih =>
    obtain ⟨g,K1,W1⟩:=ih
    exact ⟨_,K1.setLow (hn _ hr) (hl _ h1) (fun k hk=>hl k (by omega)),W1.step hr (by rw [← K1.get (hn _ hr)]; exact hg) hl⟩
theorem Ws.gd {n m:Nat} {rs:List Nat} {a b:Hps} (H:Ws n rs a b) (hm:n≤m) (K:Gd m a):Gd m b:=by
  induction H with
  | refl=>exact K
  | step _ _ _ hl ih=>exact fun k hk=>good_set (ih k hk) (hl k (by omega))
end Go.Proofs.Ytdijijblccmfbaa
