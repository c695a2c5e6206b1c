/- A region that leaves its order open. Third part: one step in any order. No condition. -/
import Derived.Test.YtpbpmpabndgeeaaA24

/- A region that leaves its order open. Second part: what any order has done stands to what the text's order does. No condition. -/
set_option linter.unusedSimpArgs false
set_option linter.unusedVariables false
namespace Go.Proofs.Ytpbpmpabndgeeaa
open Go

theorem getO_app (a b:Hps) (q:Nat) : (q∈a.map (·.1)→getO (appH a b) q=getO a q) ∧ (q ∉ a.map (·.1)→getO (appH a b) q=getO b q∧getO a q = .none):=by
  induction a with
  | nil=>exact ⟨fun h => (by cases h),fun _=>⟨rfl,rfl⟩⟩
  | cons p t ih =>
    obtain ⟨n,o⟩:=p
    have e1:getO (appH ((n,o)::t) b) q=if n=q then o else getO (appH t b) q:=getO_cons n o (appH t b) q
    rw [e1,getO_cons,List.map_cons,List.mem_cons]
    by_cases e:n=q
    · rw [if_pos e,if_pos e]
      exact ⟨fun _=>rfl,fun h=>absurd (.inl e.symm) h⟩
    · rw [if_neg e,if_neg e]
      exact ⟨fun h=>ih.1 (h.resolve_left (fun x=>e x.symm)),fun h=>ih.2 (fun x=>h (.inr x))⟩
theorem keysFrom_mem {n q:Nat} {h:Hps}:q∈keysFrom n h↔q∈h.map (·.1)∧n≤q:=by
  induction h with
  | nil=>exact ⟨fun h => (by cases h),fun h => (by cases h.1)⟩
  | cons p t ih =>
    show q ∈ (Bool.rec (motive:=fun _=>List Nat) (keysFrom n t) (p.1::keysFrom n t) (Nat.ble n p.1))↔_
    rw [List.map_cons,List.mem_cons,ble_iff]
    by_cases e:n≤p.1
    · rw [decide_eq_true e]
      show q∈p.1::keysFrom n t↔_
      rw [List.mem_cons,ih]
      exact ⟨fun h=>h.elim (fun x=>⟨.inl x,x ▸ e⟩) (fun x=>⟨.inr x.1,x.2⟩),fun h=>h.1.elim .inl (fun x => .inr ⟨x,h.2⟩)⟩
    · rw [decide_eq_false e]
      show q∈keysFrom n t↔_
      rw [ih]
      exact ⟨fun h=>⟨.inr h.1,h.2⟩,fun h=>⟨h.1.resolve_left (fun x=>e (x ▸ h.2)),h.2⟩⟩
theorem inH_keys {p:Nat→Bool} {q:Nat} {h:Hps} (ht:inH p h=true) (hq:q∈h.map (·.1)):p q=true:=by
  induction h with
  | nil=>cases hq
  | cons x t ih =>
    obtain ⟨h1,h2⟩:=and2 (show Bool.and (p x.1) (Bool.and (inO p x.2) (inH p t))=true from ht)
    obtain ⟨h2,h3⟩:=and2 h2
    rw [List.map_cons,List.mem_cons] at hq
    rcases hq with rfl | hq
    · exact h1
    · exact ih h3 hq
theorem inH_obj {p:Nat→Bool} {q:Nat} {h:Hps} (ht:inH p h=true) (hq:q∈h.map (·.1)):inO p (getO h q)=true:=by
  induction h with
  | nil=>cases hq
  | cons x t ih =>
    obtain ⟨r,o⟩:=x
    obtain ⟨h1,h2⟩:=and2 (show Bool.and (p r) (Bool.and (inO p o) (inH p t))=true from ht)
    obtain ⟨h2,h3⟩:=and2 h2
    rw [getO_cons]
    by_cases e:r=q
    · rw [if_pos e]; exact h2
    · rw [if_neg e]
      rw [List.map_cons,List.mem_cons] at hq
      rcases hq with rfl | hq
      · exact absurd rfl e
      · exact ih h3 hq
theorem memN_iff {r:Nat} {l:List Nat}:memN r l=true↔r∈l:=by
  induction l with
  | nil=>exact ⟨fun h => (by cases h),fun h => (by cases h)⟩
  | cons x l ih =>
    show Bool.rec (motive:=fun _=>Bool) (memN r l) true (Nat.beq x r)=true↔_
    cases hb:Nat.beq x r with
    | true=>have:=beq_eq hb; subst this; simp
    | false =>
      have hne:r≠x:=fun e=>by rw [e,Nat.beq_refl] at hb; cases hb
      simp [ih,hne]
theorem allN_mem {p:Nat→Bool} {l:List Nat} (h:allN p l=true) {r:Nat} (hr:r∈l):p r=true:=by
  induction l with
  | nil=>cases hr
  | cons x t ih =>
    obtain ⟨h1,h2⟩:=and2 (show Bool.and (p x) (allN p t)=true from h)
    rcases List.mem_cons.1 hr with rfl | hr
    · exact h1
    · exact ih h2 hr
theorem getO_subH {R:List Nat} {h:Hps} {q:Nat} : (q∈R→getO (subH R h) q=getO h q) ∧ (q ∉ R→getO (subH R h) q = .none):=by
  induction R with
  | nil=>exact ⟨fun h => (by cases h),fun _=>rfl⟩
  | cons r t ih =>
    have e:getO (subH (r::t) h) q=if r=q then getO h r else getO (subH t h) q:=getO_cons _ _ _ _
    rw [e]
    by_cases hr:r=q
    · subst hr
      rw [if_pos rfl]
      exact ⟨fun _=>rfl,fun hn=>absurd List.mem_cons_self hn⟩
    · rw [if_neg hr]
      refine ⟨fun hq=>ih.1 ?_,fun hq=>ih.2 (fun hm=>hq (List.mem_cons_of_mem _ hm))⟩
      rcases List.mem_cons.1 hq with e | hq
      · exact absurd e.symm hr
      · exact hq
theorem subH_keys {R:List Nat} {h:Hps} : (subH R h).map (·.1)=R:=by
  induction R with
  | nil=>rfl
  | cons r t ih=>show r :: (subH t h).map (·.1)=_; rw [ih]
theorem subH_same {R:List Nat} {h h':Hps} (hh:∀ q,q∈R→getO h q=getO h' q):subH R h=subH R h':=by
  induction R with
  | nil=>rfl
  | cons r t ih =>
    show (r,getO h r)::subH t h = (r,getO h' r)::subH t h'
    rw [hh r (by simp),ih (fun q hq=>hh q (by simp [hq]))]
theorem getO_remH {R:List Nat} {h:Hps} {q:Nat} : (q∈R→getO (remH R h) q = .none) ∧ (q ∉ R→getO (remH R h) q=getO h q):=by
  induction R with
  | nil=>exact ⟨fun h => (by cases h),fun _=>rfl⟩
  | cons r t ih =>
    have e:getO (remH (r::t) h) q=if q=r then .none else getO (remH t h) q:=getO_delO _ _ _
    rw [e]
    by_cases hr:q=r
    · subst hr
      rw [if_pos rfl]
      exact ⟨fun _=>rfl,fun hn=>absurd List.mem_cons_self hn⟩
    · rw [if_neg hr]
      refine ⟨fun hq=>ih.1 ?_,fun hq=>ih.2 (fun hm=>hq (List.mem_cons_of_mem _ hm))⟩
      rcases List.mem_cons.1 hq with e | hq
      · exact absurd e hr
      · exact hq
theorem reach_seen {h:Hps}:∀ (f:Nat) (todo seen:List Nat) (q:Nat),q∈seen→q∈reach h f todo seen:=by
  intro f
  induction f with
  | zero=>intro todo seen q hq; exact hq
  | succ f ih =>
    intro todo seen q hq
    cases todo with
    | nil=>exact hq
    | cons r t =>
      show q∈Bool.rec (motive:=fun _=>List Nat) (reach h f (appN (rdOb (getO h r)) t) (r::seen)) (reach h f t seen) (memN r seen)
      cases memN r seen with
      | true=>exact ih _ _ _ hq
      | false=>exact ih _ _ _ (List.mem_cons_of_mem _ hq)
theorem reach_same {h h':Hps}:∀ (f:Nat) (todo seen:List Nat),(∀ q,q∈reach h f todo seen→getO h q=getO h' q)→reach h f todo seen=reach h' f todo seen:=by
  intro f
  induction f with
  | zero=>intro todo seen _; rfl
  | succ f ih =>
    intro todo seen hh
    cases todo with
    | nil=>rfl
    | cons r t =>
      have e:∀ h,reach h (f+1) (r::t) seen=Bool.rec (motive:=fun _=>List Nat) (reach h f (appN (rdOb (getO h r)) t) (r::seen)) (reach h f t seen) (memN r seen):=fun _=>rfl
      rw [e] at hh ⊢
      rw [e]
      cases hm:memN r seen with
      | true=>rw [hm] at hh; exact ih _ _ hh
      | false =>
        rw [hm] at hh
        have hr:getO h r=getO h' r:=hh r (reach_seen f _ _ r List.mem_cons_self)
        show reach h f (appN (rdOb (getO h r)) t) (r::seen)=reach h' f (appN (rdOb (getO h' r)) t) (r::seen)
        rw [← hr]
        exact ih _ _ hh
theorem pureC_inv {R:List Nat} {n n1:Nat} {h h1:Hps} {f d:D} {args:List D} {r:Rd} (e:pureC R n h f args r = .ok d n1 h1):∃ g,r = .ok d n1 g∧h1=appH g (remH R h)∧allN (fun r=>Nat.ble r n) R=true∧inD (fun r=>memN r R) 20 f=true ∧
    allL (inD (fun r=>memN r R) 20) args=true∧inH (fun r=>memN r R) (subH R h)=true∧inD (ofR R (n+1)) 20 d=true∧inH (ofR R (n+1)) g=true:=by
  cases r with
  | bad=>cases e
  | ok d2 n2 g =>
    obtain ⟨h3,h4⟩:=ifR_inv (show ifR (Bool.and (allN (fun r=>Nat.ble r n) R) (Bool.and (inD (fun r=>memN r R) 20 f) (Bool.and (allL (inD (fun r=>memN r R) 20) args) (Bool.and (inH (fun r=>memN r R) (subH R h)) (Bool.and (inD (ofR R (n+1)) 20 d2) (inH (ofR R (n+1)) g))))))
      (.ok d2 n2 (appH g (remH R h))) = .ok d n1 h1 from e)
    cases h4
    obtain ⟨c1,c2⟩:=and2 h3
    obtain ⟨c2,c3⟩:=and2 c2
    obtain ⟨c3,c4⟩:=and2 c3
    obtain ⟨c4,c5⟩:=and2 c4
    obtain ⟨c5,c6⟩:=and2 c5
    exact ⟨g,rfl,rfl,c1,c2,c3,c4,c5,c6⟩
theorem ofR_iff {R:List Nat} {s r:Nat}:ofR R s r=true↔s≤r∨r∈R:=by
  unfold ofR
  show (Nat.ble s r || memN r R)=true↔_
  rw [Bool.or_eq_true,memN_iff,ble_iff,decide_eq_true_eq]
theorem subC_frame {call:CallF} {R:List Nat} {n n1:Nat} {h h' h1:Hps} {G d:D} {A:List D} {T:List Nat} (hd:subC call R n h G A = .ok d n1 h1) (hR:∀ q,q∈R→q∈T) (hK:∀ q,q∈keysFrom n h1→q∈T) (hh:∀ q,q∈T→getO h q=getO h' q) :
    ∃ h1',subC call R n h' G A = .ok d n1 h1' ∧ (∀ q,q∈T→getO h1' q=getO h1 q)∧∀ q,q ∉ T→getO h1 q=getO h q∧getO h1' q=getO h' q:=by
  obtain ⟨g,h2,rfl,c1,c2,c3,c4,c5,c6⟩:=pureC_inv hd
  have hs:subH R h=subH R h':=subH_same (fun q hq=>hh q (hR q hq))
  have hkey:∀ q,q∈g.map (·.1)→q∈T:=by
    intro q hm
    rcases ofR_iff.1 (inH_keys c6 hm) with h3 | h3
    · refine hK q (keysFrom_mem.2 ⟨?_,by omega⟩)
      have:∀ (a b:Hps),q∈a.map (·.1)→q ∈ (appH a b).map (·.1):=by
        intro a b
        induction a with
        | nil=>intro h; cases h
        | cons p t ih =>
          intro h
          show q∈p.1 :: (appH t b).map (·.1)
          rw [List.map_cons,List.mem_cons] at h
          exact h.elim (fun x=>x ▸ List.mem_cons_self) (fun x=>List.mem_cons_of_mem _ (ih x))
      exact this g _ hm
    · exact hR q h3
  refine ⟨appH g (remH R h'),?_,fun q hq=>?_,fun q hq=>?_⟩
  · show pureC R n h' G A (call (n+1) (subH R h') G A)=_
    rw [← hs,h2]
    show ifR (Bool.and (allN (fun r=>Nat.ble r n) R) (Bool.and (inD (fun r=>memN r R) 20 G) (Bool.and (allL (inD (fun r=>memN r R) 20) A) (Bool.and (inH (fun r=>memN r R) (subH R h')) (Bool.and (inD (ofR R (n+1)) 20 d) (inH (ofR R (n+1)) g)))))) (.ok d n1 (appH g (remH R h')))=_
    rw [← hs,c1,c2,c3,c4,c5,c6]; rfl
  · by_cases hm:q∈g.map (·.1)
    · rw [(getO_app g _ q).1 hm,(getO_app g _ q).1 hm]
    · rw [((getO_app g _ q).2 hm).1,((getO_app g _ q).2 hm).1]
      by_cases hr:q∈R
      · rw [getO_remH.1 hr,getO_remH.1 hr]
      · rw [getO_remH.2 hr,getO_remH.2 hr,hh q hq]
  · have hm:q ∉ g.map (·.1):=fun hm=>hq (hkey q hm)
    have hr:q ∉ R:=fun hr=>hq (hR q hr)
    rw [((getO_app g _ q).2 hm).1,((getO_app g _ q).2 hm).1,getO_remH.2 hr,getO_remH.2 hr]
    exact ⟨rfl,rfl⟩

theorem snapC_inv {n n1:Nat} {h h1:Hps} {f d:D} {args:List D} {r:Rd} (e:snapC n h f args r = .ok d n1 h1):r = .ok d n1 []∧h1=h∧clo 20 f=true∧allL (clo 20) args=true∧bare 20 d=true:=by
  cases r with
  | bad=>cases e
  | ok d2 n2 g =>
    cases g with
    | cons=>cases e
    | nil =>
      obtain ⟨h3,h4⟩:=ifR_inv (show ifR (Bool.and (clo 20 f) (Bool.and (allL (clo 20) args) (bare 20 d2))) (.ok d2 n2 h) = .ok d n1 h1 from e)
      cases h4
      obtain ⟨c1,c2⟩:=and2 h3
      obtain ⟨c2,c3⟩:=and2 c2
      exact ⟨rfl,rfl,c1,c2,c3⟩
theorem rfL_mem {ih:D→List Nat} {l:List D} {d:D} {q:Nat} (hd:d∈l) (hq:q∈ih d):q∈rfL ih l:=by
  induction l with
  | nil=>cases hd
  | cons x t i =>
    show q∈appN (ih x) (rfL ih t)
    rw [appN_eq,List.mem_append]
    rcases List.mem_cons.1 hd with rfl | hd
    · exact .inl hq
    · exact .inr (i hd)
theorem rfL_same {ih ih':D→List Nat} {l:List D} (hl:∀ d,d∈l→ih d=ih' d):rfL ih l=rfL ih' l:=by
  induction l with
  | nil=>rfl
  | cons x t i =>
    show appN (ih x) (rfL ih t)=appN (ih' x) (rfL ih' t)
    rw [hl x (by simp),i (fun d hd=>hl d (by simp [hd]))]
theorem mapL_same {f g:D→D} {l:List D} (hl:∀ d,d∈l→f d=g d):mapL f l=mapL g l:=by
  rw [mapL_eq,mapL_eq]
  exact List.map_congr_left hl
theorem rf_same {h h':Hps}:∀ (f:Nat) (d:D),(∀ q,q∈rf h f d→getO h q=getO h' q)→frz h 0 f d=frz h' 0 f d∧rf h f d=rf h' f d:=by
  intro f
  induction f with
  | zero=>intro d _; exact ⟨rfl,rfl⟩
  | succ f ih =>
    intro d hd
    have hlist:∀ l:List D,(∀ q,q∈rfL (rf h f) l→getO h q=getO h' q)→mapL (frz h 0 f) l=mapL (frz h' 0 f) l∧rfL (rf h f) l=rfL (rf h' f) l:=fun l hl =>
      ⟨mapL_same (fun d hd => (ih d (fun q hq=>hl q (rfL_mem hd hq))).1),rfL_same (fun d hd => (ih d (fun q hq=>hl q (rfL_mem hd hq))).2)⟩
    cases d with
    | ms k r off len full =>
      have h0:getO h r=getO h' r:=hd r (show r∈r::rfM (rf h f) off len (getO h r) from List.mem_cons_self)
      have h1:∀ q,q∈rfM (rf h f) off len (getO h r)→getO h q=getO h' q:=fun q hq=>hd q (List.mem_cons_of_mem _ hq)
      show Bool.rec (motive:=fun _=>D) (frzO (frz h 0 f) k off len full (getO h r)) (.ms k r off len full) (Nat.blt r 0)=Bool.rec (motive:=fun _=>D) (frzO (frz h' 0 f) k off len full (getO h' r)) (.ms k r off len full) (Nat.blt r 0)∧r::rfM (rf h f) off len (getO h r)=r::rfM (rf h' f) off len (getO h' r)
      rw [← h0]
      cases hg:getO h r with
      | row kk es =>
        rw [hg] at h1
        obtain ⟨i1,i2⟩:=hlist (takeL len (dropL off es)) h1
        constructor
        · show Bool.rec (motive:=fun _=>D) (Bool.rec (motive:=fun _=>D) .junk (frzS k (mapL (frz h 0 f) (takeL len (dropL off es))) (dropL (off+len) es) full) (Bool.and (Nat.beq k kk) (Nat.ble (off+len) (lenL es)))) (.ms k r off len full) (Nat.blt r 0)=Bool.rec (motive:=fun _=>D) (Bool.rec (motive:=fun _=>D) .junk (frzS k (mapL (frz h' 0 f) (takeL len (dropL off es))) (dropL (off+len) es) full) (Bool.and (Nat.beq k kk) (Nat.ble (off+len) (lenL es)))) (.ms k r off len full) (Nat.blt r 0)
          rw [i1]
        · exact congrArg _ i2
      | _=>exact ⟨rfl,rfl⟩
    | ptr r i j =>
      have h0:getO h r=getO h' r:=hd r (show r∈r::rfP (rf h f) i (getO h r) from List.mem_cons_self)
      have h1:∀ q,q∈rfP (rf h f) i (getO h r)→getO h q=getO h' q:=fun q hq=>hd q (List.mem_cons_of_mem _ hq)
      show Bool.rec (motive:=fun _=>D) (frzP (frz h 0 f) i j (getO h r)) (.ptr r i j) (Nat.blt r 0)=Bool.rec (motive:=fun _=>D) (frzP (frz h' 0 f) i j (getO h' r)) (.ptr r i j) (Nat.blt r 0)∧r::rfP (rf h f) i (getO h r)=r::rfP (rf h' f) i (getO h' r)
      rw [← h0]
      cases hg:getO h r with
      | row kk es =>
        rw [hg] at h1
        obtain ⟨i1,i2⟩:=ih (nth es i) h1
        constructor
        · show Bool.rec (motive:=fun _=>D) (frzI kk j (frz h 0 f (nth es i))) (.ptr r i j) (Nat.blt r 0)=Bool.rec (motive:=fun _=>D) (frzI kk j (frz h' 0 f (nth es i))) (.ptr r i j) (Nat.blt r 0)
          rw [i1]
        · exact congrArg _ i2
      | _=>exact ⟨rfl,rfl⟩
    | agg cs=>obtain ⟨i1,i2⟩:=hlist cs hd; exact ⟨congrArg D.agg i1,i2⟩
    | tup cs=>obtain ⟨i1,i2⟩:=hlist cs hd; exact ⟨congrArg D.tup i1,i2⟩
    | fn g a c =>
      have h1:∀ q,q∈appN (rfL (rf h f) a) (rfL (rf h f) c)→getO h q=getO h' q:=hd
      obtain ⟨i1,i2⟩:=hlist a (fun q hq=>h1 q (by rw [appN_eq]; exact List.mem_append_left _ hq))
      obtain ⟨j1,j2⟩:=hlist c (fun q hq=>h1 q (by rw [appN_eq]; exact List.mem_append_right _ hq))
      constructor
      · show D.fn g (mapL (frz h 0 f) a) (mapL (frz h 0 f) c) = .fn g (mapL (frz h' 0 f) a) (mapL (frz h' 0 f) c)
        rw [i1,j1]
      · show appN (rfL (rf h f) a) (rfL (rf h f) c)=appN (rfL (rf h' f) a) (rfL (rf h' f) c)
        rw [i2,j2]
    | _=>exact ⟨rfl,rfl⟩
theorem refsC_same {h h':Hps} {f:D} {args:List D} (hq:∀ q,q∈refsC h f args→getO h q=getO h' q):frz h 0 20 f=frz h' 0 20 f∧mapL (frz h 0 20) args=mapL (frz h' 0 20) args∧refsC h f args=refsC h' f args:=by
  have hq':∀ q,q∈appN (rf h 20 f) (rfL (rf h 20) args)→getO h q=getO h' q:=hq
  obtain ⟨i1,i2⟩:=rf_same 20 f (fun q h1=>hq' q (by rw [appN_eq]; exact List.mem_append_left _ h1))
  have hl:∀ d,d∈args→frz h 0 20 d=frz h' 0 20 d∧rf h 20 d=rf h' 20 d:=fun d hd=>rf_same 20 d (fun q h1=>hq' q (by rw [appN_eq]; exact List.mem_append_right _ (rfL_mem hd h1)))
  refine ⟨i1,mapL_same (fun d hd => (hl d hd).1),?_⟩
  show appN (rf h 20 f) (rfL (rf h 20) args)=appN (rf h' 20 f) (rfL (rf h' 20) args)
  rw [i2,rfL_same (fun d hd => (hl d hd).2)]

theorem opP_frame {call:CallF} {b:Bool} {e e':Tr} {n:Nat} {h h':Hps} {o:DOp} {d:D} {n1:Nat} {h1:Hps} (hb:b=true→notCall o=true) (he:∀ p,p∈rdOp o→get p e=get p e') (hd:opP call b e n h o = .ok d n1 h1) (hh:∀ q,q∈touchR e n o h h1→getO h q=getO h' q) :
    ∃ h1',opP call b e' n h' o = .ok d n1 h1' ∧ (∀ q,q∈touchR e n o h h1→getO h1' q=getO h1 q)∧∀ q,q ∉ touchR e n o h h1→getO h1 q=getO h q∧getO h1' q=getO h' q:=by
  by_cases hc:notCall o=true
  · have h1:∀ e n h,opP call b e n h o=opD e n h o:=by intro e n h; cases o <;> first | rfl | cases hc
    have h2:∀ h1,touchR e n o h h1=touch e n o:=by intro h1; cases o <;> first | rfl | cases hc
    rw [h1] at hd ⊢
    rw [h2] at hh ⊢
    exact opD_frame he hh _ _ _ hd
  · cases o <;> first | exact absurd rfl hc | (cases hd; done) | skip
    rename_i f args
    cases b with
    | true=>exact absurd (hb rfl) hc
    | false =>
      have e1:ev e f=ev e' f:=ev_eq (fun p hp=>he p (List.mem_append_left _ hp))
      have e2:evs e args=evs e' args:=evs_same (fun p hp=>he p (List.mem_append_right _ hp))
      have hd':apartC call n h (ev e f) (evs e args) (rfL (rd 20) (evs e args)) = .ok d n1 h1:=hd
      show ∃ h1',apartC call n h' (ev e' f) (evs e' args) (rfL (rd 20) (evs e' args)) = .ok d n1 h1'∧_
      rw [e1,e2] at hd'
      have hT:∀ q,q∈touchR e n (.call f args) h h1↔q∈apartR h (ev e' f) (evs e' args) (rfL (rd 20) (evs e' args))∨q∈keysFrom n h1:=by
        intro q
        show q∈appN (apartR h (ev e f) (evs e args) (rfL (rd 20) (evs e args))) (keysFrom n h1)↔_
        rw [e1,e2,appN_eq,List.mem_append]
      generalize ev e' f=G at hd' hT ⊢
      generalize evs e' args=A at hd' hT ⊢
      generalize touchR e n (.call f args) h h1=T at hh hT ⊢
      cases ha:rfL (rd 20) A with
      | cons a0 at0 =>
        rw [ha] at hd' hT
        have hd2:subC call (reachC h A G) n h G A = .ok d n1 h1:=hd'
        have hsame:reachC h A G=reachC h' A G:=reach_same _ _ _ (fun q hq=>hh q ((hT q).2 (.inl hq)))
        show ∃ h1',subC call (reachC h' A G) n h' G A = .ok d n1 h1'∧_
        rw [← hsame]
        exact subC_frame hd2 (fun q hq => (hT q).2 (.inl hq)) (fun q hq => (hT q).2 (.inr hq)) hh
      | nil =>
        rw [ha] at hd' hT
        cases hc:rd 20 G with
        | nil =>
          have hd2:capC call n h G A (rd 20 G) = .ok d n1 h1:=hd'
          rw [hc] at hd2
          have hd3:subC call [] n h G A = .ok d n1 h1:=hd2
          show ∃ h1',capC call n h' G A (rd 20 G) = .ok d n1 h1'∧_
          rw [hc]
          exact subC_frame hd3 (fun q hq=>by cases hq) (fun q hq => (hT q).2 (.inr hq)) hh
        | cons c0 ct0 =>
          have hd2:capC call n h G A (rd 20 G) = .ok d n1 h1:=hd'
          rw [hc] at hd2
          replace hd2:snapC n h (frz h 0 20 G) (mapL (frz h 0 20) A) (call (n+1) [] (frz h 0 20 G) (mapL (frz h 0 20) A)) = .ok d n1 h1:=hd2
          obtain ⟨h2,rfl,c1,c2,c3⟩:=snapC_inv hd2
          have hT2:∀ q,q∈refsC h1 G A→q∈T:=fun q hq => (hT q).2 (.inl (by show q∈capR h1 G A (rd 20 G); rw [hc]; exact hq))
          obtain ⟨s1,s2,_⟩:=refsC_same (h:=h1) (h':=h') (f:=G) (args:=A) (fun q hq=>hh q (hT2 q hq))
          refine ⟨h',?_,fun q hq => (hh q hq).symm,fun q _=>⟨rfl,rfl⟩⟩
          show capC call n h' G A (rd 20 G)=_
          rw [hc]
          show snapC n h' (frz h' 0 20 G) (mapL (frz h' 0 20) A) (call (n+1) [] (frz h' 0 20 G) (mapL (frz h' 0 20) A))=_
          rw [← s1,← s2,h2]
          show ifR (Bool.and (clo 20 (frz h1 0 20 G)) (Bool.and (allL (clo 20) (mapL (frz h1 0 20) A)) (bare 20 d))) (.ok d n1 h')=_
          rw [c1,c2,c3]; rfl

theorem touchR_loud {e:Tr} {n q:Nat} {o:DOp} {h h1:Hps} (hq:q∈touchR e n o h h1):0 < loud o:=by
  cases o <;> first | (simp only [loud]; omega) | (simp only [touchR,touch] at hq; cases hq)

theorem opD_quiet {e:Tr} {n:Nat} {h:Hps} {o:DOp} (hl:loud o < 2) {d:D} {n1:Nat} {h1:Hps} (hd:opD e n h o = .ok d n1 h1):h1=h:=by
  have hF:Fr (touch e n o) h h (opD e n h o) (opD e n h o):=opD_frame (fun _ _=>rfl) (fun _ _=>rfl)
  have okd:∀ x,okD n h x = .ok d n1 h1→h1=h:=fun x hx=>by obtain ⟨_,_,h3,_⟩:=okD_inv hx; exact h3.symm
  have still:∀ {F:Hps→Rd},Still F→F h = .ok d n1 h1→h1=h:=fun hF e => (hF h h d n1 h1 e).1
  cases o with
  | mv x=>cases hd; rfl
  | pick c a b=>refine still (F:=fun h=>pickD n h _ _ _) ?_ hd; cases ev e c <;> first | exact Still.ok _ _ | exact Still.bad
  | build zs ps=>refine still (F:=fun h=>buildD n h _) ?_ hd; cases fillP e ps (some zs) <;> first | exact Still.ok _ _ | exact Still.bad
  | load ag k a =>
    have hd:loadD ag k n h (ev e a) = .ok d n1 h1:=hd
    cases hv:ev e a with
    | ptr q i j =>
      rw [hv] at hd
      have hd:loadR ag k i j n h (getO h q) = .ok d n1 h1:=hd
      cases hg:getO h q with
      | row kk es=>rw [hg] at hd; exact okd _ hd
      | _=>rw [hg] at hd; cases hd
    | ip y j=>rw [hv] at hd; exact okd _ hd
    | _=>rw [hv] at hd; cases hd
  | bin op x y=>exact okd _ hd
  | cmp neg t x y=>obtain ⟨_,_,_,h3⟩:=obR_inv (show obR n h neg (eqD t (ev e x) (ev e y)) = .ok d n1 h1 from hd); exact h3
  | not x=>refine still (F:=fun h=>notD n h _) ?_ hd; cases ev e x <;> first | exact Still.ok _ _ | exact Still.bad
  | neg x=>refine still (F:=fun h=>negD n h _) ?_ hd; cases ev e x <;> first | exact Still.ok _ _ | exact Still.bad
  | faddr o x=>refine still (F:=fun h=>faddrD n h o _) ?_ hd; cases ev e x <;> first | exact Still.ok _ _ | exact Still.bad
  | fld ag o k x=>refine still (F:=fun h=>fldD n h ag o k _) ?_ hd; cases ev e x <;> first | exact Still.okD _ _ | exact Still.bad
  | look t z ok m i =>
    have hd:lookD n h t z ok (ev e i) (ev e m) = .ok d n1 h1:=hd
    have hl:∀ o,lookR n h t z ok (ev e i) o = .ok d n1 h1→h1=h:=by
      intro o ho
      cases o with
      | map es =>
        have ho:lookF n h z ok (findK t (ev e i) es) = .ok d n1 h1:=ho
        cases hf:findK t (ev e i) es <;> rw [hf] at ho <;> cases ho <;> rfl
      | _=>cases ho
    cases hv:ev e m with
    | mp q=>rw [hv] at hd; exact hl _ hd
    | nilm=>rw [hv] at hd; exact hl (.map []) hd
    | _=>rw [hv] at hd; cases hd
  | len t x =>
    have hd:lenD n h t (ev e x) = .ok d n1 h1:=hd
    cases t with
    | str=>refine still (F:=fun h=>lenS n h _) ?_ hd; cases ev e x <;> first | exact Still.ok _ _ | exact Still.bad
    | slice=>refine still (F:=fun h=>lenC n h _) ?_ hd; cases ev e x <;> first | exact Still.ok _ _ | exact Still.bad
    | map =>
      cases hv:ev e x with
      | mp q =>
        rw [hv] at hd
        have hd:lenM n h (getO h q) = .ok d n1 h1:=hd
        cases hg:getO h q <;> rw [hg] at hd <;> cases hd
        rfl
      | nilm=>rw [hv] at hd; cases hd; rfl
      | _=>rw [hv] at hd; cases hd
    | _=>cases hd
  | mkfn=>cases hd; rfl
  | max x y=>refine still (F:=fun h=>maxD n h _ _) ?_ hd; cases ev e x <;> first | exact Still.bad | (cases ev e y <;> first | exact Still.ok _ _ | exact Still.bad)
  | min x y=>refine still (F:=fun h=>minD n h _ _) ?_ hd; cases ev e x <;> first | exact Still.bad | (cases ev e y <;> first | exact Still.ok _ _ | exact Still.bad)
  | nilck x=>refine still (F:=fun h=>nilckD n h _) ?_ hd; cases ev e x <;> first | exact Still.ok _ _ | exact Still.bad
  | ext x i=>refine still (F:=fun h=>extD n h i _) ?_ hd; cases ev e x <;> first | exact Still.okD _ _ | exact Still.bad
  | iaddr k x i=>refine still (F:=fun h=>natR (iaddrD n h k _) _) (Still.natR _ (fun m=>?_)) hd; cases ev e x <;> first | exact Still.ifR _ (Still.ok _ _) | exact Still.bad
  | cvi k x=>refine still (F:=fun h=>cviD n h k _) ?_ hd; cases ev e x <;> first | exact Still.ok _ _ | exact Still.bad
  | mkif t x=>cases hd; rfl
  | cbs x =>
    cases hv:view 1 h (ev e x) with
    | bad=>have hd:cbsD n h (view 1 h (ev e x)) = .ok _ _ _:=hd; rw [hv] at hd; cases hd
    | ok k xs =>
      have hd:cbsD n h (view 1 h (ev e x)) = .ok _ _ _:=hd
      rw [hv] at hd
      have hd := (ifR_inv (show ifR (Nat.beq k 1) (cbsB n h (bytesL xs))=_ from hd)).2
      cases hb:bytesL xs with
      | bad=>rw [hb] at hd; cases hd
      | ok l=>rw [hb] at hd; cases hd; rfl
  | tas t ok z x=>exact still (F:=fun h=>tasD n h t ok z _) (tas_still _) hd
  | paddr k m x i=>refine still (F:=fun h=>natR (paddrD n h k m _) _) (Still.natR _ (fun j=>?_)) hd; cases ev e x <;> first | exact Still.ifR _ (Still.ok _ _) | exact Still.bad
  | aidx ag k m x i=>refine still (F:=fun h=>natR (aidxD n h ag k m _) _) (Still.natR _ (fun m=>?_)) hd; cases ev e x <;> first | exact Still.ifR _ (Still.okD _ _) | exact Still.bad
  | sidx x i =>
    refine still (F:=fun h=>natR (sidxD n h _) _) (Still.natR _ (fun m=>?_)) hd
    cases ev e x with
    | str s =>
      cases hn:nthN s m with
      | none =>
        have : (fun h=>sidxD n h (.str s) m)=fun _=>Rd.bad:=by funext h; simp only [sidxD,hn]
        rw [this]; exact Still.bad
      | some b =>
        have : (fun h=>sidxD n h (.str s) m)=fun h=>Rd.ok (.int .u8 (.ofNat b)) n h:=by funext h; simp only [sidxD,hn]
        rw [this]; exact Still.ok _ _
    | _=>exact Still.bad
  | slice k x lo hi mx =>
    have h2:Still (fun h=>slice2 n h k e (ev e x) lo hi):=by
      cases ev e x <;> first | exact Still.ifR _ (Still.optN _ _ _ (fun _=>Still.optN _ _ _ (fun _=>Still.ifR _ (Still.ok _ _)))) | exact Still.optN _ _ _ (fun _=>Still.optN _ _ _ (fun _=>Still.ifR _ (Still.ok _ _))) | exact Still.bad
    have h3:Still (fun h=>slice3 n h k e (ev e x) lo hi mx):=by
      cases ev e x <;> first | exact Still.ifR _ (Still.optN _ _ _ (fun _=>Still.optN _ _ _ (fun _=>Still.optN _ _ _ (fun _=>Still.ifR _ (Still.ok _ _))))) | exact Still.optN _ _ _ (fun _=>Still.optN _ _ _ (fun _=>Still.optN _ _ _ (fun _=>Still.ifR _ (Still.ok _ _)))) | exact Still.bad
    cases mx with
    | none=>exact still h2 hd
    | some m=>cases hi with
      | none=>cases hd
      | some u=>exact still h3 hd
  | sslice x lo hi=>refine still (F:=fun h=>ssliceD n h e _ lo hi) ?_ hd; cases ev e x <;> first | exact Still.optN _ _ _ (fun _=>Still.optN _ _ _ (fun _=>Still.ifR _ (Still.ok _ _))) | exact Still.bad
  | call=>cases hd
  | bad=>cases hd
  | _=>simp only [loud] at hl; omega

theorem opP_quiet {call:CallF} {b:Bool} {e:Tr} {n:Nat} {h:Hps} {o:DOp} (hl:loud o < 2) {d:D} {n1:Nat} {h1:Hps} (hd:opP call b e n h o = .ok d n1 h1):h1=h:=by
  have he:opP call b e n h o=opD e n h o:=by cases o <;> first | rfl | (simp only [loud] at hl; omega)
  rw [he] at hd
  exact opD_quiet hl hd

theorem eqPo_refl:∀ p:Po,eqPo p p=true
  | .h=>rfl
  | .o p=>eqPo_refl p
  | .i p=>eqPo_refl p
theorem apartPo_spec {a b:List Po} (h:apartPo a b=true) {p:Po} (ha:p∈a) (hb:p∈b):False:=by
  have:=List.all_eq_true.1 (List.all_eq_true.1 h p ha) p hb
  rw [eqPo_refl] at this
  cases this

def Dn (ops:Array Oper) (S:Nat→Prop):Prop:=∀ j o,ops[j]? = some o→S j→∀ e,e∈o.after→Region.binds .any e=true→S e.on

theorem before_spec {ops:Array Oper} {S:Nat→Prop} (hS:Dn ops S) {i j:Nat} (hb : ((Region.before ops).getD j 0).testBit i=true) (hj:S j):S i:=by
  have hfold:∀ (acc:Array Nat) (l:List Edge) (s0:Nat) (i:Nat),(l.foldl (fun s e=>if Region.binds .any e then s ||| 2 ^ e.on ||| acc.getD e.on 0 else s) s0).testBit i=true →
      s0.testBit i=true∨∃ e,e∈l∧Region.binds .any e=true ∧ (i=e.on ∨ (acc.getD e.on 0).testBit i=true):=by
    intro acc l
    induction l with
    | nil=>intro s0 i h; exact .inl h
    | cons e l ih =>
      intro s0 i h
      rw [List.foldl_cons] at h
      rcases ih _ i h with h1 | ⟨e2,h1,h2⟩
      · split at h1
        · rename_i hbd
          rw [Nat.testBit_or,Nat.testBit_or,Bool.or_eq_true,Bool.or_eq_true] at h1
          rcases h1 with (h1 | h1) | h1
          · exact .inl h1
          · right
            refine ⟨e,by simp,hbd,.inl ?_⟩
            rw [Nat.testBit_two_pow] at h1
            simpa using (by simpa using h1:e.on=i).symm
          · exact .inr ⟨e,by simp,hbd,.inr h1⟩
        · exact .inl h1
      · exact .inr ⟨e2,by simp [h1],h2⟩
  have main:∀ (l:List Oper) (acc:Array Nat),(∀ x,x < l.length→ops[acc.size+x]? = l[x]?) → (∀ j i,(acc.getD j 0).testBit i=true→S j→S i) →
      ∀ j i,((l.foldl (fun acc o=>acc.push (o.after.foldl (fun s e=>if Region.binds .any e then s ||| 2 ^ e.on ||| acc.getD e.on 0 else s) 0)) acc).getD j 0).testBit i=true→S j→S i:=by
    intro l
    induction l with
    | nil=>intro acc _ hacc; exact hacc
    | cons o l ih =>
      intro acc hl hacc
      rw [List.foldl_cons]
      have ho:ops[acc.size]? = some o:=by simpa using hl 0 (by simp)
      refine ih _ (fun x hx=>?_) (fun j i hb hj=>?_)
      · have:=hl (x+1) (by simp; omega)
        rw [Array.size_push,show acc.size+1+x=acc.size + (x+1) by omega]
        simpa using this
      · rw [Array.getD_eq_getD_getElem?,Array.getElem?_push] at hb
        split at hb
        · rename_i hjs
          subst hjs
          simp only [Option.getD_some] at hb
          rw [← Array.foldl_toList] at hb
          rcases hfold acc o.after.toList 0 i hb with h1 | ⟨e,h1,h2,h3⟩
          · simp at h1
          · have hse:=hS _ o ho hj e (Array.mem_toList_iff.1 h1) h2
            rcases h3 with rfl | h3
            · exact hse
            · exact hacc _ _ h3 hse
        · rw [← Array.getD_eq_getD_getElem?] at hb
          exact hacc j i hb hj
  unfold Region.before at hb
  rw [← Array.foldl_toList] at hb
  exact main ops.toList #[] (fun x hx=>by simp) (fun j i h=>by simp at h) j i hb hj
end Go.Proofs.Ytpbpmpabndgeeaa

/- A region that leaves its order open. Third part: one step in any order. No condition. -/
namespace Go.Proofs.Ytpbpmpabndgeeaa
open Go

section
variable {P:Program} {m:Nat} {ops:Array Oper} {sd:Nat} {call:CallF} {e0:Tr} {n0:Nat} {h0:Hps}

noncomputable abbrev dl (P:Program) (m:Nat) (ops:Array Oper):List DOper:=ops.toList.map (cOper P m ops)

theorem dl_get {j:Nat} {x:DOper} (hx : (dl P m ops)[j]? = some x):∃ o,ops[j]? = some o∧x=cOper P m ops o∧j < ops.size:=by
  rw [List.getElem?_map] at hx
  cases ho:ops.toList[j]? with
  | none=>rw [ho] at hx; cases hx
  | some o =>
    rw [ho] at hx
    cases hx
    have:ops[j]? = some o:=by simpa using ho
    exact ⟨o,this,rfl,(Array.getElem?_eq_some_iff.1 this).1⟩

theorem un_mem {i j:Nat} {x y:DOper} (hx : (dl P m ops)[i]? = some x) (hy : (dl P m ops)[j]? = some y) (hij:i < j) (hb : ((Region.before ops).getD j 0).testBit i=false) (hi:0 < loud (oP x)) (hj:0 < loud (oP y)) (hs:2 < loud (oP x)+loud (oP y)) :
    j - 1 - i ∈ (cUn P m ops).getD j []:=by
  obtain ⟨ox,hox,rfl,hil⟩:=dl_get hx
  obtain ⟨oy,hoy,rfl,hjl⟩:=dl_get hy
  have hlo:∀ (o:Oper) (n:Nat),n < loud (oP (cOper P m ops o))→loud (oP (cOper P m ops o))=loud (cOp P m o):=by
    intro o n h
    unfold cOper at h ⊢
    split
    · rfl
    · rename_i hn; split at h
      · rename_i a b c d; exact absurd d (hn _ _ c)
      · simp [oP,loud] at h
  rw [hlo _ _ hi,hlo _ _ hj] at hs
  rw [hlo _ _ hi] at hi
  rw [hlo _ _ hj] at hj
  have hls:∀ (t:Nat) (o:Oper),ops[t]? = some o → (ops.toList.map fun o=>loud (cOp P m o)).getD t 0=loud (cOp P m o):=by
    intro t o ho
    have:ops.toList[t]? = some o:=by simpa using ho
    simp [List.getD_eq_getElem?_getD,this]
  have hg : (cUn P m ops).getD j []=unOf ops (Region.before ops) (ops.toList.map fun o=>loud (cOp P m o)) j ((ops.toList.map fun o=>loud (cOp P m o)).getD j 0):=by
    unfold cUn
    simp [List.getD_eq_getElem?_getD,hjl]
  rw [hg]
  unfold unOf
  rw [List.mem_map]
  refine ⟨i,?_,rfl⟩
  rw [List.mem_filter,List.mem_range]
  refine ⟨hij,?_⟩
  rw [hls j oy hoy,hls i ox hox,hb]
  simp only [Bool.not_false,Bool.true_and,Bool.and_eq_true,decide_eq_true_eq]
  exact ⟨⟨hj,hi⟩,by omega⟩

theorem draw_pair (hD:drawOk (Region.before ops) ops (dl P m ops)=true) {i j:Nat} {x y:DOper} (hx : (dl P m ops)[i]? = some x) (hy : (dl P m ops)[j]? = some y) (hij:i < j) : ((Region.before ops).getD j 0).testBit i=true∨apartOp x y=true:=by
  unfold drawOk at hD
  rw [Bool.and_eq_true] at hD
  obtain ⟨_,_,_,hjl⟩:=dl_get hy
  have h1:=List.all_eq_true.1 (List.all_eq_true.1 hD.1 j (List.mem_range.2 hjl)) i (List.mem_range.2 hij)
  rw [Bool.or_eq_true] at h1
  rcases h1 with h1 | h1
  · exact .inl h1
  · right
    rw [List.getD_eq_getElem?_getD,List.getD_eq_getElem?_getD,hx,hy] at h1
    exact h1

def Bar (P:Program) (m:Nat) (ops:Array Oper) (j:Nat):Prop := (cBar P m ops).getD j false=true∧∃ x,(dl P m ops)[j]? = some x∧notCall (oP x)=false
def TT (P:Program) (m:Nat) (ops:Array Oper) (sd:Nat) (call:CallF) (e0:Tr) (n0:Nat) (h0:Hps) (j q:Nat):Prop:=q∈tT sd call (cBar P m ops) (dl P m ops) e0 n0 h0 j∨Bar P m ops j

def WW (P:Program) (m:Nat) (ops:Array Oper) (sd:Nat) (call:CallF) (e0:Tr) (n0:Nat) (h0:Hps) (j q:Nat):Prop:=q∈wT sd call (cBar P m ops) (dl P m ops) e0 n0 h0 j∨Bar P m ops j

structure Sim (P:Program) (m:Nat) (ops:Array Oper) (sd:Nat) (call:CallF) (e0:Tr) (n0:Nat) (h0:Hps) (S:Nat→Prop) (E:Tr) (H:Hps):Prop where
  env:∀ p t,t≤ops.size → (∀ i x,(dl P m ops)[i]? = some x→p∈wrP x → (S i↔i < t))→get p E=get p (trj sd call (cBar P m ops) (dl P m ops) e0 n0 h0 t).1
  heap:∀ q t,t≤ops.size → (∀ i x,(dl P m ops)[i]? = some x→2≤loud (oP x)→WW P m ops sd call e0 n0 h0 i q → (S i↔i < t))→getO H q=getO (trj sd call (cBar P m ops) (dl P m ops) e0 n0 h0 t).2 q

def Plus (S:Nat→Prop) (j:Nat):Nat→Prop:=fun i=>S i∨i=j

variable {S:Nat→Prop} {E:Tr} {H:Hps} {j:Nat} {x:DOper}

theorem order_lt (hS':Dn ops (Plus S j)) {i:Nat} (hij:i < j) (hb : ((Region.before ops).getD j 0).testBit i=true):S i:=by
  rcases before_spec hS' hb (.inr rfl) with h | h
  · exact h
  · omega
theorem order_gt (hS:Dn ops S) (hj:¬ S j) {i:Nat} (hb : ((Region.before ops).getD i 0).testBit j=true):¬ S i:=fun h=>hj (before_spec hS hb h)

theorem Sim.reads (M:Sim P m ops sd call e0 n0 h0 S E H) (hD:drawOk (Region.before ops) ops (dl P m ops)=true) (hS:Dn ops S) (hS':Dn ops (Plus S j)) (hj:¬ S j) (hx : (dl P m ops)[j]? = some x) {p:Po} (hp:p∈rdP x) :
    get p E=get p (trj sd call (cBar P m ops) (dl P m ops) e0 n0 h0 j).1:=by
  obtain ⟨_,_,_,hjl⟩:=dl_get hx
  refine M.env p j (Nat.le_of_lt hjl) (fun i y hy hw=>?_)
  rcases Nat.lt_trichotomy i j with h | h | h
  · refine ⟨fun _=>h,fun _=>?_⟩
    rcases draw_pair hD hy hx h with hb | ha
    · exact order_lt hS' h hb
    · simp only [apartOp,Bool.and_eq_true] at ha
      exact (apartPo_spec ha.1.2 hw hp).elim
  · subst h
    exact ⟨fun hs=>absurd hs hj,fun hlt=>absurd hlt (Nat.lt_irrefl _)⟩
  · refine ⟨fun hs=>?_,fun hlt=>by omega⟩
    rcases draw_pair hD hx hy h with hb | ha
    · exact absurd hs (order_gt hS hj hb)
    · simp only [apartOp,Bool.and_eq_true] at ha
      exact (apartPo_spec ha.2 hw hp).elim

theorem bar_loud {i:Nat} {y:DOper} (hy : (dl P m ops)[i]? = some y) (hb:Bar P m ops i):loud (oP y)=2 ∧ (cBar P m ops).getD i false=true∧notCall (oP y)=false:=by
  obtain ⟨h1,x,h2,h3⟩:=hb
  rw [hy] at h2
  cases h2
  refine ⟨?_,h1,h3⟩
  cases ho:oP y <;> first | rfl | (rw [ho] at h3; cases h3)
theorem bar_bound {i k:Nat} {y z:DOper} (hy : (dl P m ops)[i]? = some y) (hz : (dl P m ops)[k]? = some z) (hb : (cBar P m ops).getD i false=true) (hl:0 < loud (oP z)) (hne:k≠i) :
    (k < i → ((Region.before ops).getD i 0).testBit k=true) ∧ (i < k → ((Region.before ops).getD k 0).testBit i=true):=by
  obtain ⟨oy,hoy,rfl,hil⟩:=dl_get hy
  obtain ⟨oz,hoz,rfl,hkl⟩:=dl_get hz
  have hg : (cBar P m ops).getD i false=barOf (Region.before ops) (ops.toList.map fun o=>loud (cOp P m o)) ops.size i:=by
    unfold cBar
    simp [List.getD_eq_getElem?_getD,hil]
  rw [hg] at hb
  have h1:=List.all_eq_true.1 hb k (List.mem_range.2 hkl)
  have hlo:loud (oP (cOper P m ops oz))=loud (cOp P m oz):=by
    unfold cOper at hl ⊢
    split
    · rfl
    · rename_i hn; split at hl
      · rename_i a b c d; exact absurd d (hn _ _ c)
      · simp [oP,loud] at hl
  have hls : (ops.toList.map fun o=>loud (cOp P m o)).getD k 0=loud (cOp P m oz):=by
    have:ops.toList[k]? = some oz:=by simpa using hoz
    simp [List.getD_eq_getElem?_getD,this]
  rw [hls] at h1
  simp only [Bool.or_eq_true,Bool.and_eq_true,beq_iff_eq,decide_eq_true_eq] at h1
  rcases h1 with ((h1 | h1) | h1) | h1
  · exact absurd h1 hne
  · omega
  · exact ⟨fun _=>h1.2,fun h=>by omega⟩
  · exact ⟨fun h=>by omega,fun _=>h1.2⟩

theorem tT_wanted (hG:∀ j y,(dl P m ops)[j]? = some y→Good sd call (cBar P m ops) (dl P m ops) (cUn P m ops) e0 n0 h0 j y) {i q:Nat} {y:DOper} (hy : (dl P m ops)[i]? = some y) (hq:q∈tT sd call (cBar P m ops) (dl P m ops) e0 n0 h0 i) :
    (nxt call ((cBar P m ops).getD i false) (trj sd call (cBar P m ops) (dl P m ops) e0 n0 h0 i).1 (nm sd n0 i) (trj sd call (cBar P m ops) (dl P m ops) e0 n0 h0 i).2 y).1=true∧0 < loud (oP y):=by
  have g:=hG i y hy
  cases hb : (nxt call ((cBar P m ops).getD i false) (trj sd call (cBar P m ops) (dl P m ops) e0 n0 h0 i).1 (nm sd n0 i) (trj sd call (cBar P m ops) (dl P m ops) e0 n0 h0 i).2 y).1 with
  | false=>rw [(g.no hb).2.2.1] at hq; cases hq
  | true=>rw [(g.yes hb).1] at hq; exact ⟨rfl,touchR_loud hq⟩
theorem TT_loud (hG:∀ j y,(dl P m ops)[j]? = some y→Good sd call (cBar P m ops) (dl P m ops) (cUn P m ops) e0 n0 h0 j y) {i q:Nat} {y:DOper} (hy : (dl P m ops)[i]? = some y) (hq:TT P m ops sd call e0 n0 h0 i q):0 < loud (oP y):=by
  rcases hq with hq | hq
  · exact (tT_wanted hG hy hq).2
  · rw [(bar_loud hy hq).1]; omega

theorem wk_loud {o:DOp} (h:wk o=0):loud o < 2:=by cases o <;> first | (simp only [loud]; omega) | cases h
theorem WW_TT (hG:∀ j y,(dl P m ops)[j]? = some y→Good sd call (cBar P m ops) (dl P m ops) (cUn P m ops) e0 n0 h0 j y) {i q:Nat} {y:DOper} (hy : (dl P m ops)[i]? = some y) (hq:WW P m ops sd call e0 n0 h0 i q):TT P m ops sd call e0 n0 h0 i q:=by
  rcases hq with hq | hq
  · left
    have g:=hG i y hy
    cases hb : (nxt call ((cBar P m ops).getD i false) (trj sd call (cBar P m ops) (dl P m ops) e0 n0 h0 i).1 (nm sd n0 i) (trj sd call (cBar P m ops) (dl P m ops) e0 n0 h0 i).2 y).1 with
    | false=>rw [(g.no hb).2.2.2] at hq; cases hq
    | true=>rw [(g.yes hb).2.2.2] at hq; exact writR_sub hq
  · exact .inr hq
theorem clash (hG:∀ j y,(dl P m ops)[j]? = some y→Good sd call (cBar P m ops) (dl P m ops) (cUn P m ops) e0 n0 h0 j y) {i k q:Nat} {y z:DOper} (hy : (dl P m ops)[i]? = some y) (hz : (dl P m ops)[k]? = some z) (hik:i < k)
    (hq1:TT P m ops sd call e0 n0 h0 i q) (hq2:TT P m ops sd call e0 n0 h0 k q) (hl : (2≤loud (oP y)∧WW P m ops sd call e0 n0 h0 i q) ∨ (2≤loud (oP z)∧WW P m ops sd call e0 n0 h0 k q)) : ((Region.before ops).getD k 0).testBit i=true:=by
  have l1:=TT_loud hG hy hq1
  have l2:=TT_loud hG hz hq2
  rcases hq1 with hq1 | hb
  · rcases hq2 with hq2 | hb
    · obtain ⟨_,h1⟩:=tT_wanted hG hy hq1
      obtain ⟨h2,h3⟩:=tT_wanted hG hz hq2
      cases hb : ((Region.before ops).getD k 0).testBit i with
      | true=>rfl
      | false =>
        have hu:=un_mem hy hz hik hb h1 h3 (by omega)
        obtain ⟨a1,a2⟩ := ((hG k z hz).yes h2).2.2.1 i hik hu q
        rcases hl with ⟨_,hw | hw⟩ | ⟨_,hw | hw⟩
        · exact absurd hq2 (a2 hw)
        · rw [← hb]; exact (bar_bound hy hz hw.1 l2 (by omega)).2 hik
        · exact absurd hq1 (a1 hw)
        · rw [← hb]; exact (bar_bound hz hy hw.1 l1 (by omega)).1 hik
    · exact (bar_bound hz hy hb.1 l1 (by omega)).1 hik
  · exact (bar_bound hy hz hb.1 l2 (by omega)).2 hik

theorem Sim.touched (M:Sim P m ops sd call e0 n0 h0 S E H) (hG:∀ j y,(dl P m ops)[j]? = some y→Good sd call (cBar P m ops) (dl P m ops) (cUn P m ops) e0 n0 h0 j y) (hS:Dn ops S) (hS':Dn ops (Plus S j)) (hj:¬ S j) (hx : (dl P m ops)[j]? = some x)
    {q:Nat} (hq:TT P m ops sd call e0 n0 h0 j q):getO H q=getO (trj sd call (cBar P m ops) (dl P m ops) e0 n0 h0 j).2 q:=by
  obtain ⟨_,_,_,hjl⟩:=dl_get hx
  refine M.heap q j (Nat.le_of_lt hjl) (fun i y hy hl hw=>?_)
  rcases Nat.lt_trichotomy i j with h | h | h
  · exact ⟨fun _=>h,fun _=>order_lt hS' h (clash hG hy hx h (WW_TT hG hy hw) hq (.inl ⟨hl,hw⟩))⟩
  · subst h
    exact ⟨fun hs=>absurd hs hj,fun hlt=>absurd hlt (Nat.lt_irrefl _)⟩
  · exact ⟨fun hs=>absurd hs (order_gt hS hj (clash hG hx hy h hq (WW_TT hG hy hw) (.inr ⟨hl,hw⟩))),fun hlt=>by omega⟩

theorem heap_kept (hG:∀ j y,(dl P m ops)[j]? = some y→Good sd call (cBar P m ops) (dl P m ops) (cUn P m ops) e0 n0 h0 j y) {i q:Nat} {y:DOper} (hy : (dl P m ops)[i]? = some y) (hq:¬ (2≤loud (oP y)∧WW P m ops sd call e0 n0 h0 i q)) :
    getO (trj sd call (cBar P m ops) (dl P m ops) e0 n0 h0 (i+1)).2 q=getO (trj sd call (cBar P m ops) (dl P m ops) e0 n0 h0 i).2 q:=by
  have g:=hG i y hy
  cases hb : (nxt call ((cBar P m ops).getD i false) (trj sd call (cBar P m ops) (dl P m ops) e0 n0 h0 i).1 (nm sd n0 i) (trj sd call (cBar P m ops) (dl P m ops) e0 n0 h0 i).2 y).1 with
  | false=>rw [(g.no hb).2.1]
  | true =>
    obtain ⟨h1,⟨n1,_,h2⟩,_,hw⟩:=g.yes hb
    by_cases hl:loud (oP y) < 2
    · rw [opP_quiet hl h2]
    · by_cases hbar:Bar P m ops i
      · exact absurd ⟨by omega,.inr hbar⟩ hq
      · have hqw:q ∉ writR (oP y) (tT sd call (cBar P m ops) (dl P m ops) e0 n0 h0 i) (trj sd call (cBar P m ops) (dl P m ops) e0 n0 h0 i).2 (trj sd call (cBar P m ops) (dl P m ops) e0 n0 h0 (i+1)).2:=fun h=>hq ⟨by omega,.inl (hw ▸ h)⟩
        by_cases hqt:q∈tT sd call (cBar P m ops) (dl P m ops) e0 n0 h0 i
        · unfold writR at hqw
          cases hk:wk (oP y) with
          | zero=>exact absurd (wk_loud hk) hl
          | succ k =>
            rw [hk] at hqw
            cases k with
            | zero=>exact absurd hqt hqw
            | succ k=>exact changed_mem.2 hqt hqw
        · have hq2:q ∉ touchR (trj sd call (cBar P m ops) (dl P m ops) e0 n0 h0 i).1 (nm sd n0 i) (oP y) (trj sd call (cBar P m ops) (dl P m ops) e0 n0 h0 i).2 (trj sd call (cBar P m ops) (dl P m ops) e0 n0 h0 (i+1)).2:=fun h=>hqt (h1 ▸ h)
          have hnc : (cBar P m ops).getD i false=true→notCall (oP y)=true:=by
            intro e
            cases hn:notCall (oP y) with
            | true=>rfl
            | false=>exact absurd ⟨e,y,hy,hn⟩ hbar
          obtain ⟨_,_,_,h5⟩:=opP_frame (h' := (trj sd call (cBar P m ops) (dl P m ops) e0 n0 h0 i).2) hnc (fun _ _=>rfl) h2 (fun _ _=>rfl)
          exact (h5 q hq2).1

theorem Sim.step (M:Sim P m ops sd call e0 n0 h0 S E H) (hD:drawOk (Region.before ops) ops (dl P m ops)=true) (hG:∀ j y,(dl P m ops)[j]? = some y→Good sd call (cBar P m ops) (dl P m ops) (cUn P m ops) e0 n0 h0 j y) (hS:Dn ops S) (hS':Dn ops (Plus S j)) (hj:¬ S j)
    (hx : (dl P m ops)[j]? = some x) {H':Hps} (hin:∀ q,TT P m ops sd call e0 n0 h0 j q→getO H' q=getO (trj sd call (cBar P m ops) (dl P m ops) e0 n0 h0 (j+1)).2 q) (hout:∀ q,¬ TT P m ops sd call e0 n0 h0 j q→getO H' q=getO H q) :
    Sim P m ops sd call e0 n0 h0 (Plus S j) (putE E (dP x) (nxt call ((cBar P m ops).getD j false) (trj sd call (cBar P m ops) (dl P m ops) e0 n0 h0 j).1 (nm sd n0 j) (trj sd call (cBar P m ops) (dl P m ops) e0 n0 h0 j).2 x).2.1) H':=by
  obtain ⟨_,_,_,hjl⟩:=dl_get hx
  have hget:∀ i,i < ops.size→∃ y,(dl P m ops)[i]? = some y:=fun i hi=>by
    refine ⟨cOper P m ops ops[i],?_⟩
    simp [hi]
  have hput:∀ (e:Tr) (y:DOper) (d:D) (p:Po),p ∉ wrP y→get p (putE e (dP y) d)=get p e:=by
    intro e y d p hp
    obtain ⟨dst,g,o⟩:=y
    cases dst with
    | none=>rfl
    | some r=>exact get_put_ne d p r e (fun h=>hp (by simp [wrP,wrD,h]))
  have hput2:∀ (e:Tr) (y:DOper) (d:D) (p:Po),p∈wrP y→get p (putE e (dP y) d)=d:=by
    intro e y d p hp
    obtain ⟨dst,g,o⟩:=y
    cases dst with
    | none=>cases hp
    | some r =>
      have:p=r:=by simpa [wrP,wrD] using hp
      subst this
      exact get_put_same _ _ _
  refine ⟨fun p t ht hw=>?_,fun q t ht hw=>?_⟩
  · by_cases hp:p∈wrP x
    · have hjt:j < t := (hw j x hx hp).1 (.inr rfl)
      rw [hput2 _ _ _ _ hp]
      have key:∀ d,j+1+d≤t→get p (trj sd call (cBar P m ops) (dl P m ops) e0 n0 h0 (j+1+d)).1 = (nxt call ((cBar P m ops).getD j false) (trj sd call (cBar P m ops) (dl P m ops) e0 n0 h0 j).1 (nm sd n0 j) (trj sd call (cBar P m ops) (dl P m ops) e0 n0 h0 j).2 x).2.1:=by
        intro d
        induction d with
        | zero=>intro _; rw [Nat.add_zero,(hG j x hx).env]; exact hput2 _ _ _ _ hp
        | succ d ih =>
          intro hd
          obtain ⟨y,hy⟩:=hget (j+1+d) (by omega)
          rw [show j+1 + (d+1) = (j+1+d)+1 by omega,(hG _ y hy).env]
          have hpy:p ∉ wrP y:=by
            intro hpy
            have hin2:Plus S j (j+1+d) := (hw _ y hy hpy).2 (by omega)
            have hSi:S (j+1+d):=hin2.resolve_right (by omega)
            rcases draw_pair hD hx hy (by omega) with hb | ha
            · exact order_gt hS hj hb hSi
            · simp only [apartOp,Bool.and_eq_true] at ha
              exact apartPo_spec ha.1.1 hp hpy
          rw [hput _ _ _ _ hpy]
          exact ih (by omega)
      have:=key (t - (j+1)) (by omega)
      rw [show j+1 + (t - (j+1))=t by omega] at this
      exact this.symm
    · rw [hput _ _ _ _ hp]
      refine M.env p t ht (fun i y hy hpy=>?_)
      have:=hw i y hy hpy
      have hne:i≠j:=by
        intro e; subst e; rw [hx] at hy; cases hy; exact hp hpy
      exact ⟨fun hs=>this.1 (.inl hs),fun hlt => (this.2 hlt).resolve_right hne⟩
  · by_cases hq:2≤loud (oP x)∧WW P m ops sd call e0 n0 h0 j q
    · have hjt:j < t := (hw j x hx hq.1 hq.2).1 (.inr rfl)
      rw [hin q (WW_TT hG hx hq.2)]
      have key:∀ d,j+1+d≤t→getO (trj sd call (cBar P m ops) (dl P m ops) e0 n0 h0 (j+1+d)).2 q=getO (trj sd call (cBar P m ops) (dl P m ops) e0 n0 h0 (j+1)).2 q:=by
        intro d
        induction d with
        | zero=>intro _; rfl
        | succ d ih =>
          intro hd
          obtain ⟨y,hy⟩:=hget (j+1+d) (by omega)
          rw [show j+1 + (d+1) = (j+1+d)+1 by omega,heap_kept hG hy ?_,ih (by omega)]
          rintro ⟨hl,hqy⟩
          have hin2:Plus S j (j+1+d) := (hw _ y hy hl hqy).2 (by omega)
          have hSi:S (j+1+d):=hin2.resolve_right (by omega)
          exact order_gt hS hj (clash hG hx hy (by omega) (WW_TT hG hx hq.2) (WW_TT hG hy hqy) (.inl hq)) hSi
      have:=key (t - (j+1)) (by omega)
      rw [show j+1 + (t - (j+1))=t by omega] at this
      exact this.symm
    · have hSt:getO H q=getO (trj sd call (cBar P m ops) (dl P m ops) e0 n0 h0 t).2 q:=by
        refine M.heap q t ht (fun i y hy hl hqy=>?_)
        have:=hw i y hy hl hqy
        have hne:i≠j:=by
          intro e; subst e; rw [hx] at hy; cases hy; exact hq ⟨hl,hqy⟩
        exact ⟨fun hs=>this.1 (.inl hs),fun hlt => (this.2 hlt).resolve_right hne⟩
      rw [← hSt]
      by_cases hq2:TT P m ops sd call e0 n0 h0 j q
      · rw [hin q hq2,heap_kept hG hx hq,M.touched hG hS hS' hj hx hq2]
      · exact hout q hq2
end
end Go.Proofs.Ytpbpmpabndgeeaa
