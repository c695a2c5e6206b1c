/- Merged: LP L0 L2 L3 L4. -/
import Derived.Test.YtpbpmpabndgeeaaA0
import Derived.Test.YtpbpmpabndgeeaaA41
import Derived.Test.YtpbpmpabndgeeaaCL

/- Levels in plain Lean: canonical lists of variables,the greater one of two,the order. No condition. -/
set_option linter.unusedSimpArgs false
set_option linter.unusedVariables false
namespace Go.Proofs.Ytpbpmpabndgeeaa

abbrev LV:=Int×Int
def Srt (l:List LV):Prop:=l.Pairwise fun a b=>a.1 < b.1
theorem srt_ext:∀ {l m:List LV},Srt l→Srt m → (∀ p,p∈l↔p∈m)→l=m
  | [],[],_,_,_=>rfl
  | [],b::s,_,_,h=>absurd ((h b).2 (by simp)) (by simp)
  | a::t,[],_,_,h=>absurd ((h a).1 (by simp)) (by simp)
  | a::t,b::s,hl,hm,h=>by
    have hl':=List.pairwise_cons.1 hl
    have hm':=List.pairwise_cons.1 hm
    have hab:a=b:=by
      have h1 := (h a).1 (by simp)
      have h2 := (h b).2 (by simp)
      rcases List.mem_cons.1 h1 with e | h1
      · exact e
      · rcases List.mem_cons.1 h2 with e | h2
        · exact e.symm
        · have:=hl'.1 b h2; have:=hm'.1 a h1; omega
    subst hab
    congr 1
    refine srt_ext hl'.2 hm'.2 (fun p=>⟨fun hp=>?_,fun hp=>?_⟩)
    · have h1 := (h p).1 (by simp [hp])
      rcases List.mem_cons.1 h1 with e | h1
      · subst e; have:=hl'.1 p hp; omega
      · exact h1
    · have h1 := (h p).2 (by simp [hp])
      rcases List.mem_cons.1 h1 with e | h1
      · subst e; have:=hm'.1 p hp; omega
      · exact h1

structure Nf (vs l:List LV):Prop where
  srt:Srt l
  sub:∀ p,p∈l→p∈vs
  cov:∀ p,p∈vs→∃ q,q∈l∧q.1=p.1∧p.2≤q.2
theorem srt_one {l:List LV} (hl:Srt l) {p q:LV} (hp:p∈l) (hq:q∈l) (h:p.1=q.1):p=q:=by
  induction l with
  | nil=>cases hp
  | cons a t ih =>
    have h':=List.pairwise_cons.1 hl
    rcases List.mem_cons.1 hp with e | hp
    · rcases List.mem_cons.1 hq with e' | hq
      · rw [e,e']
      · have:=h'.1 q hq; rw [e] at h; omega
    · rcases List.mem_cons.1 hq with e' | hq
      · have:=h'.1 p hp; rw [e'] at h; omega
      · exact ih h'.2 hp hq
theorem Nf.uniq {vs l m:List LV} (h1:Nf vs l) (h2:Nf vs m):l=m:=by
  have key:∀ {l m:List LV},Nf vs l→Nf vs m→∀ p,p∈l→p∈m:=by
    intro l m h1 h2 p hp
    obtain ⟨q,hq,q1,q2⟩:=h2.cov p (h1.sub p hp)
    obtain ⟨r,hr,r1,r2⟩:=h1.cov q (h2.sub q hq)
    have e:r=p:=srt_one h1.srt hr hp (by omega)
    subst e
    have:q=r:=Prod.ext q1 (by omega)
    rw [← this]; exact hq
  exact srt_ext h1.srt h2.srt (fun p=>⟨key h1 h2 p,key h2 h1 p⟩)
theorem Nf.self {l:List LV} (h:Srt l):Nf l l:=⟨h,fun _ hp=>hp,fun p hp=>⟨p,hp,rfl,Int.le_refl _⟩⟩
theorem Nf.trans {a b c:List LV} (h1:Nf a b) (h2:Nf b c):Nf a c:=⟨h2.srt,fun p hp=>h1.sub p (h2.sub p hp),fun p hp=>by
  obtain ⟨q,hq,q1,q2⟩:=h1.cov p hp
  obtain ⟨r,hr,r1,r2⟩:=h2.cov q hq
  exact ⟨r,hr,by omega,by omega⟩⟩
theorem Nf.app {a a' b c:List LV} (h1:Nf a a') (h2:Nf (a'++b) c):Nf (a++b) c:=⟨h2.srt,fun p hp=>by
  rcases List.mem_append.1 (h2.sub p hp) with h | h
  · exact List.mem_append.2 (.inl (h1.sub p h))
  · exact List.mem_append.2 (.inr h),fun p hp=>by
  rcases List.mem_append.1 hp with h | h
  · obtain ⟨q,hq,q1,q2⟩:=h1.cov p h
    obtain ⟨r,hr,r1,r2⟩:=h2.cov q (List.mem_append.2 (.inl hq))
    exact ⟨r,hr,by omega,by omega⟩
  · exact h2.cov p (List.mem_append.2 (.inr h))⟩
theorem Nf.nil:Nf [] []:=⟨List.Pairwise.nil,fun _ h=>h,fun _ h => (by cases h)⟩

def grt (x y:LV):LV:=if x.2 < y.2 then y else x
def mergeF:Nat→List LV→List LV→List LV
  | 0,a,b=>a++b
  | f+1,a,b=>match a,b with
    | [],b=>b
    | a,[]=>a
    | x::a,y::b=>if x.1 < y.1 then x::mergeF f a (y::b) else if y.1 < x.1 then y::mergeF f (x::a) b else grt x y::mergeF f a b
def merge (a b:List LV):List LV:=mergeF (a.length+b.length) a b
theorem mergeF_nf:∀ (f:Nat) (a b:List LV),a.length+b.length≤f→Srt a→Srt b→Nf (a++b) (mergeF f a b)∧∀ k,(∀ p,p∈a→k < p.1) → (∀ p,p∈b→k < p.1)→∀ p,p∈mergeF f a b→k < p.1:=by
  intro f
  induction f with
  | zero =>
    intro a b h ha hb
    have e1:a=[]:=List.length_eq_zero_iff.1 (by omega)
    have e2:b=[]:=List.length_eq_zero_iff.1 (by omega)
    subst e1 e2
    exact ⟨Nf.nil,fun k h1 h2 p hp=>h1 p hp⟩
  | succ f ih =>
    intro a b h ha hb
    match a,b with
    | [],b =>
      have e:mergeF (f+1) [] b=b:=by rw [mergeF]
      rw [e]
      exact ⟨Nf.self hb,fun k _ h2 p hp=>h2 p hp⟩
    | x::a,[] =>
      have e:mergeF (f+1) (x::a) []=x::a:=by rw [mergeF]; exact fun h=>by cases h
      rw [e,List.append_nil]
      exact ⟨Nf.self ha,fun k h1 _ p hp=>h1 p hp⟩
    | x::a,y::b =>
      have ha':=List.pairwise_cons.1 ha
      have hb':=List.pairwise_cons.1 hb
      have e:mergeF (f+1) (x::a) (y::b)=if x.1 < y.1 then x::mergeF f a (y::b) else if y.1 < x.1 then y::mergeF f (x::a) b else grt x y::mergeF f a b:=by rw [mergeF]
      rw [e]
      simp only [List.length_cons] at h
      by_cases h1:x.1 < y.1
      · rw [if_pos h1]
        obtain ⟨i1,i2⟩:=ih a (y::b) (by simp only [List.length_cons]; omega) ha'.2 hb
        have i3:=i2 x.1 ha'.1 (fun p hp=>by
          rcases List.mem_cons.1 hp with e | hp
          · rw [e]; exact h1
          · have:=hb'.1 p hp; omega)
        refine ⟨⟨List.pairwise_cons.2 ⟨i3,i1.srt⟩,fun p hp=>?_,fun p hp=>?_⟩,fun k k1 k2 p hp=>?_⟩
        · rcases List.mem_cons.1 hp with e | hp
          · simp [e]
          · have:=i1.sub p hp; simp only [List.cons_append,List.mem_cons]; exact .inr this
        · simp only [List.cons_append,List.mem_cons] at hp
          rcases hp with e | hp
          · exact ⟨x,by simp,by rw [e],by rw [e]; exact Int.le_refl _⟩
          · obtain ⟨q,hq,q1,q2⟩:=i1.cov p hp
            exact ⟨q,by simp [hq],q1,q2⟩
        · rcases List.mem_cons.1 hp with e | hp
          · rw [e]; exact k1 x (by simp)
          · exact i2 k (fun p hp=>k1 p (by simp [hp])) k2 p hp
      · rw [if_neg h1]
        by_cases h2:y.1 < x.1
        · rw [if_pos h2]
          obtain ⟨i1,i2⟩:=ih (x::a) b (by simp only [List.length_cons]; omega) ha hb'.2
          have i3:=i2 y.1 (fun p hp=>by
            rcases List.mem_cons.1 hp with e | hp
            · rw [e]; exact h2
            · have:=ha'.1 p hp; omega) hb'.1
          refine ⟨⟨List.pairwise_cons.2 ⟨i3,i1.srt⟩,fun p hp=>?_,fun p hp=>?_⟩,fun k k1 k2 p hp=>?_⟩
          · rcases List.mem_cons.1 hp with e | hp
            · simp [e]
            · have:=i1.sub p hp
              rcases List.mem_append.1 this with h | h
              · exact List.mem_append.2 (.inl h)
              · exact List.mem_append.2 (.inr (by simp [h]))
          · rcases List.mem_append.1 hp with hp | hp
            · obtain ⟨q,hq,q1,q2⟩:=i1.cov p (List.mem_append.2 (.inl hp))
              exact ⟨q,by simp [hq],q1,q2⟩
            · rcases List.mem_cons.1 hp with e | hp
              · exact ⟨y,by simp,by rw [e],by rw [e]; exact Int.le_refl _⟩
              · obtain ⟨q,hq,q1,q2⟩:=i1.cov p (List.mem_append.2 (.inr hp))
                exact ⟨q,by simp [hq],q1,q2⟩
          · rcases List.mem_cons.1 hp with e | hp
            · rw [e]; exact k2 y (by simp)
            · exact i2 k k1 (fun p hp=>k2 p (by simp [hp])) p hp
        · rw [if_neg h2]
          have hxy:x.1=y.1:=by omega
          have hg1 : (grt x y).1=x.1:=by unfold grt; split <;> omega
          obtain ⟨i1,i2⟩:=ih a b (by omega) ha'.2 hb'.2
          have i3:=i2 x.1 ha'.1 (fun p hp=>by have:=hb'.1 p hp; omega)
          refine ⟨⟨List.pairwise_cons.2 ⟨fun p hp=>by rw [hg1]; exact i3 p hp,i1.srt⟩,fun p hp=>?_,fun p hp=>?_⟩,fun k k1 k2 p hp=>?_⟩
          · rcases List.mem_cons.1 hp with e | hp
            · rw [e]; unfold grt; split
              · simp
              · simp
            · rcases List.mem_append.1 (i1.sub p hp) with h | h
              · exact List.mem_append.2 (.inl (by simp [h]))
              · exact List.mem_append.2 (.inr (by simp [h]))
          · rcases List.mem_append.1 hp with hp | hp
            · rcases List.mem_cons.1 hp with e | hp
              · exact ⟨grt x y,by simp,by rw [hg1,e],by rw [e]; unfold grt; split <;> omega⟩
              · obtain ⟨q,hq,q1,q2⟩:=i1.cov p (List.mem_append.2 (.inl hp))
                exact ⟨q,by simp [hq],q1,q2⟩
            · rcases List.mem_cons.1 hp with e | hp
              · exact ⟨grt x y,by simp,by rw [hg1,e,hxy],by rw [e]; unfold grt; split <;> omega⟩
              · obtain ⟨q,hq,q1,q2⟩:=i1.cov p (List.mem_append.2 (.inr hp))
                exact ⟨q,by simp [hq],q1,q2⟩
          · rcases List.mem_cons.1 hp with e | hp
            · rw [e,hg1]; exact k1 x (by simp)
            · exact i2 k (fun p hp=>k1 p (by simp [hp])) (fun p hp=>k2 p (by simp [hp])) p hp
theorem merge_nf {a b:List LV} (ha:Srt a) (hb:Srt b):Nf (a++b) (merge a b) := (mergeF_nf _ a b (Nat.le_refl _) ha hb).1

def nfL (vs:List LV):List LV:=vs.foldl (fun acc v=>merge acc [v]) []
theorem nfL_app (vs:List LV) (v:LV):nfL (vs++[v])=merge (nfL vs) [v]:=by unfold nfL; rw [List.foldl_append]; rfl
theorem srt_single (v:LV):Srt [v]:=List.pairwise_cons.2 ⟨fun _ h => (by cases h),List.Pairwise.nil⟩
theorem nfL_foldl:∀ (vs acc pre:List LV),Nf pre acc→Nf (pre++vs) (vs.foldl (fun acc v=>merge acc [v]) acc)
  | [],acc,pre,h=>by rw [List.append_nil]; exact h
  | v::vs,acc,pre,h=>by
    have h1:Nf (pre++[v]) (merge acc [v]):=Nf.app h (merge_nf h.srt (srt_single v))
    have:=nfL_foldl vs (merge acc [v]) (pre++[v]) h1
    rw [List.append_assoc] at this
    exact this
theorem nfL_nf (vs:List LV):Nf vs (nfL vs):=nfL_foldl vs [] [] Nf.nil
theorem nfL_eq {vs l:List LV} (h:Nf vs l):nfL vs=l := (nfL_nf vs).uniq h
structure Lev where
  n:Int
  v:List LV
def fineI (x:Int):Bool:=decide (0≤x) && decide (x≤1000)
def fineV (p:LV):Bool:=fineI p.1 && fineI p.2
def Lev.right (l:Lev):Bool:=fineI l.n && decide (l.v.length≤64) && l.v.all fineV
def zn (n:Int) (v:List LV):Int:=if v.any (fun p=>decide (n≤p.2)) then 0 else n
def Lev.norm (l:Lev):Lev:=⟨zn l.n (nfL l.v),nfL l.v⟩
def Lev.told (l:Lev):Lev×Int:=if l.norm.right then (l.norm,0) else (⟨0,[]⟩,13)
def Lev.nrm (l:Lev):Lev×Int:=if l.right then (l.norm,0) else (⟨0,[]⟩,13)
def addV (n:Int) (p:LV):LV := (p.1,p.2+n)
def Lev.more (l:Lev) (n:Int):Lev:=⟨l.n+n,l.v.map (addV n)⟩
def Lev.suc (l:Lev) (n:Int):Lev×Int:=if l.right then (if n < 0 then (⟨0,[]⟩,1) else if 1000 < n then (⟨0,[]⟩,13) else (l.norm.more n).told) else (⟨0,[]⟩,13)
def Lev.join (a b:Lev):Lev:=⟨max a.n b.n,merge a.v b.v⟩
def Lev.max2 (a b:Lev):Lev×Int:=if a.right then (if b.right then (a.norm.join b.norm).told else (⟨0,[]⟩,13)) else (⟨0,[]⟩,13)
def leqN (a b:Lev):Bool := (decide (a.n≤b.n) || b.v.any fun q=>decide (a.n≤q.2)) && a.v.all fun p=>b.v.any fun q=>decide (p.1=q.1) && decide (p.2≤q.2)
def Lev.leq (a b:Lev):Bool:=a.right && b.right && leqN a.norm b.norm
def Lev.val (l:Lev) (r:Int→Int):Int:=l.v.foldl (fun m p=>max m (r p.1+p.2)) l.n

theorem nf_len {vs l:List LV} (h:Nf vs l):l.length≤vs.length:=by
  have key:∀ (l vs:List LV),Srt l → (∀ p,p∈l→p∈vs)→l.length≤vs.length:=by
    intro l
    induction l with
    | nil=>intro vs _ _; exact Nat.zero_le _
    | cons a t ih =>
      intro vs hs hsub
      have hs':=List.pairwise_cons.1 hs
      have ha:a∈vs:=hsub a (by simp)
      have:=ih (vs.erase a) hs'.2 (fun p hp=>by
        have hne:p≠a:=fun e=>by have:=hs'.1 p hp; rw [e] at this; omega
        exact (List.mem_erase_of_ne hne).2 (hsub p (by simp [hp])))
      rw [List.length_erase_of_mem ha] at this
      have:0 < vs.length:=List.length_pos_of_mem ha
      simp only [List.length_cons]
      omega
  exact key l vs h.srt h.sub
end Go.Proofs.Ytpbpmpabndgeeaa

/- Levels as the program has them; what is fine,what is right. No condition. -/
namespace Go.Proofs.Ytpbpmpabndgeeaa
open Go
open Nat (reduceAdd reduceLT reduceLeDiff reduceEqDiff reduceMul)

structure SLev where
  n:Int
  vs:Sl LV
def SLev.lev (l:SLev):Lev:=⟨l.n,l.vs.el⟩
def encV (p:LV):D := .agg [.int .i64 p.1,.int .i64 p.2]
def encL (l:SLev):D := .agg [.int .i64 l.n,slD 2 encV l.vs]
def sizeOk (l:SLev):Prop:=l.vs.el.length < 1000000000000
theorem elemV:ElemOk 2 encV:=⟨fun _=>rfl,fun _=>rfl⟩
theorem lowV (m:Nat) (p:LV):low m (encV p):=low_flat rfl
theorem flatL (l:SLev):flat (encL l)=true:=by unfold encL; rw [flat_agg]; simp [flat1_slD,flat1_int]

section
variable (n:Nat) (h:Hps) (hg:∀ k,n≤k→GoodAt k h)
include hg
theorem lvFine (a:Int):callFn (LX (cF Try.prog)) n h [.int .i64 a] (cF Try.prog 100) = .ok (.bool (fineI a)) n h:=by
  have hgn:=hg n (Nat.le_refl _)
  rw [f100_eq]; unfold c100; rw [callFn_eq (by rfl)]
  unfold fineI
  by_cases h1:0≤a
  · by_cases h2:a≤1000
    · simp (disch:=first|assumption|omega|(simp (disch:=first|assumption|omega) only [sB,reduceAdd,reduceLT,reduceLeDiff,reduceEqDiff,reduceMul,↓reduceIte];done)|fail) only [sA,↓reduceIte,reduceLT,reduceEqDiff,reduceAdd,reduceLeDiff]
    · simp (disch:=first|assumption|omega|(simp (disch:=first|assumption|omega) only [sB,reduceAdd,reduceLT,reduceLeDiff,reduceEqDiff,reduceMul,↓reduceIte];done)|fail) only [sA,↓reduceIte,reduceLT,reduceEqDiff,reduceAdd,reduceLeDiff]
  · simp (disch:=first|assumption|omega|(simp (disch:=first|assumption|omega) only [sB,reduceAdd,reduceLT,reduceLeDiff,reduceEqDiff,reduceMul,↓reduceIte];done)|fail) only [sA,↓reduceIte,reduceLT,reduceEqDiff,reduceAdd,reduceLeDiff]
theorem lvRightA (N:Int) (d:D) (l:List LV) (ad:Nat→D) (S:Sv 2 encV n h d l ad):callFn (LX (cF Try.prog)) n h [.agg [.int .i64 N,d]] (cF Try.prog 98) = .ok (.bool (Lev.right ⟨N,l⟩)) n h:=by
  have hgn:=hg n (Nat.le_refl _)
  have H0:Hp n h (n+1) ((n,.row 2 [.agg [.int .i64 N,d]])::h) := (Hp.start hg).cons (Nat.le_refl _) (by omega) (fun k hk=>S.box2 (by omega))
  rw [f98_eq]; unfold c98; rw [callFn_eq (by rfl)]
  show _=Rd.ok (.bool (fineI N && decide (l.length≤64) && l.all fineV)) n h
  have c0:∀ m,n+1≤m→callFn (LX (cF Try.prog)) m ((n,.row 2 [.agg [.int .i64 N,d]])::h) [.int .i64 N] (cF Try.prog 100) = .ok (.bool (fineI N)) m ((n,.row 2 [.agg [.int .i64 N,d]])::h):=fun m hm=>lvFine m _ (H0.good' hm) N
  have s1:=S.len
  have s2:=S.idx
  have s3:=S.okD
  cases h1:fineI N with
  | false =>
    rw [h1] at c0
    rw [Bool.false_and,Bool.false_and]
    simp (disch:=first|assumption|omega|(simp (disch:=first|assumption|omega) only [sB,reduceAdd,reduceLT,reduceLeDiff,reduceEqDiff,reduceMul,↓reduceIte];done)|fail) only [sA,↓reduceIte,reduceLT,reduceEqDiff,reduceAdd,reduceLeDiff,c0,s1,s3]
  | true =>
    rw [h1] at c0
    by_cases h2:l.length≤64
    · rw [decide_eq_true h2,Bool.true_and,Bool.true_and]
      simp (disch:=first|assumption|omega|(simp (disch:=first|assumption|omega) only [sB,reduceAdd,reduceLT,reduceLeDiff,reduceEqDiff,reduceMul,↓reduceIte];done)|fail) only [sA,↓reduceIte,reduceLT,reduceEqDiff,reduceAdd,reduceLeDiff,c0,s1,s3]
      generalize hr:LX (cF Try.prog) (.loop l98_0) _ _ _=r
      obtain ⟨x,e2,n2,h2',rfl,H2,q⟩:=loop_up hr l.length
        (fun i e n' h'=>Hp n h n' h' ∧ (l.drop i).all fineV=l.all fineV∧get (po 16) e=d∧get (po 17) e = .int .i64 (l.length:Nat)∧get (po 18) e = .int .i64 (i:Nat))
        (fun x e n' h'=>Hp n h n' h' ∧ ((x = .exit 0∧l.all fineV=true) ∨ (x = .ret∧l.all fineV=false∧get (po 2) e = .bool false)))
        (by
          rintro e n' h' ⟨H,ha,g16,g17,g18⟩
          unfold l98_0
          simp (disch:=first|assumption|omega|(simp (disch:=first|assumption|omega) only [sB,reduceAdd,reduceLT,reduceLeDiff,reduceEqDiff,reduceMul,↓reduceIte];done)|fail) only [sA,↓reduceIte,reduceLT,reduceEqDiff,reduceAdd,reduceLeDiff,g16,g17,g18]
          exact ⟨_,_,_,_,rfl,by simp,H.mono (by omega),.inl ⟨rfl,by rw [← ha]; simp⟩⟩)
        (by
          rintro i e n' h' hi ⟨H,ha,g16,g17,g18⟩
          rw [List.drop_eq_getElem_cons hi,List.all_cons] at ha
          unfold l98_0
          have H1:Hp n h (n'+4) ((n'+3,.row 2 [encV l[i]])::h'):=H.box (by omega) (by omega) rfl
          have s4:=S.at H
          have c1:∀ m a,n'+4≤m→callFn (LX (cF Try.prog)) m ((n'+3,.row 2 [.agg [.int .i64 l[i].1,.int .i64 l[i].2]])::h') [.int .i64 a] (cF Try.prog 100) = .ok (.bool (fineI a)) m ((n'+3,.row 2 [.agg [.int .i64 l[i].1,.int .i64 l[i].2]])::h'):=fun m a hm=>lvFine m _ (H1.good' hm) a
          cases k1:fineI l[i].1 with
          | false =>
            simp (disch:=first|assumption|omega|(simp (disch:=first|assumption|omega) only [sB,reduceAdd,reduceLT,reduceLeDiff,reduceEqDiff,reduceMul,↓reduceIte];done)|fail) only [sA,↓reduceIte,reduceLT,reduceEqDiff,reduceAdd,reduceLeDiff,g16,g17,g18,s2,s4,encV,c1,k1]
            exact ⟨_,_,_,_,rfl,.inr ⟨by simp,H1.mono (by omega),.inr ⟨rfl,by rw [← ha]; simp [fineV,k1],by simp +decide only [sG]⟩⟩⟩
          | true =>
            cases k2:fineI l[i].2 with
            | false =>
              simp (disch:=first|assumption|omega|(simp (disch:=first|assumption|omega) only [sB,reduceAdd,reduceLT,reduceLeDiff,reduceEqDiff,reduceMul,↓reduceIte];done)|fail) only [sA,↓reduceIte,reduceLT,reduceEqDiff,reduceAdd,reduceLeDiff,g16,g17,g18,s2,s4,encV,c1,k1,k2]
              exact ⟨_,_,_,_,rfl,.inr ⟨by simp,H1.mono (by omega),.inr ⟨rfl,by rw [← ha]; simp [fineV,k2],by simp +decide only [sG]⟩⟩⟩
            | true =>
              simp (disch:=first|assumption|omega|(simp (disch:=first|assumption|omega) only [sB,reduceAdd,reduceLT,reduceLeDiff,reduceEqDiff,reduceMul,↓reduceIte];done)|fail) only [sA,↓reduceIte,reduceLT,reduceEqDiff,reduceAdd,reduceLeDiff,g16,g17,g18,s2,s4,encV,c1,k1,k2]
              exact ⟨_,_,_,_,rfl,.inl ⟨rfl,H1.mono (by omega),by rw [← ha]; simp [fineV,k1,k2],by simp +decide only [sG,g16],by simp +decide only [sG,g17],by simp +decide only [sG]⟩⟩)
        ⟨H0.mono (by omega),rfl,by simp +decide only [sG],by simp +decide only [sG],by simp (disch:=first|assumption|omega|(simp (disch:=first|assumption|omega) only [sB,reduceAdd,reduceLT,reduceLeDiff,reduceEqDiff,reduceMul,↓reduceIte];done)|fail) only [sA,↓reduceIte,reduceLT,reduceEqDiff,reduceAdd,reduceLeDiff]⟩
      rcases q with ⟨rfl,q⟩ | ⟨rfl,q,q2⟩
      · rw [q]
        simp (disch:=first|assumption|omega|(simp (disch:=first|assumption|omega) only [sB,reduceAdd,reduceLT,reduceLeDiff,reduceEqDiff,reduceMul,↓reduceIte];done)|fail) only [sA,↓reduceIte,reduceLT,reduceEqDiff,reduceAdd,reduceLeDiff,finish_flat (d := .bool true) rfl (H2.mono (show n2≤n2+1 by omega))]
      · rw [q]
        simp (disch:=first|assumption|omega|(simp (disch:=first|assumption|omega) only [sB,reduceAdd,reduceLT,reduceLeDiff,reduceEqDiff,reduceMul,↓reduceIte];done)|fail) only [sA,↓reduceIte,reduceLT,reduceEqDiff,reduceAdd,reduceLeDiff,q2,finish_flat (d := .bool false) rfl H2]
    · rw [decide_eq_false h2,Bool.true_and,Bool.false_and]
      simp (disch:=first|assumption|omega|(simp (disch:=first|assumption|omega) only [sB,reduceAdd,reduceLT,reduceLeDiff,reduceEqDiff,reduceMul,↓reduceIte];done)|fail) only [sA,↓reduceIte,reduceLT,reduceEqDiff,reduceAdd,reduceLeDiff,c0,s1,s3]
end
theorem aggV (p:LV):∃ cs,encV p = .agg cs∧cs.length=2:=⟨_,rfl,rfl⟩
def adV (s:Sl LV) (i:Nat):D := .ip (if hi:i < s.el.length then encV s.el[i] else .junk) 0
theorem svV {n:Nat} {h:Hps} (s:Sl LV):Sv 2 encV n h (slD 2 encV s) s.el (adV s):=Sv.slD aggV
end Go.Proofs.Ytpbpmpabndgeeaa

/- The canonical form of a level,as the program makes it. No condition. -/
namespace Go.Proofs.Ytpbpmpabndgeeaa
open Go
open Nat (reduceAdd reduceLT reduceLeDiff reduceEqDiff reduceMul)

section
variable (n:Nat) (h:Hps) (hg:∀ k,n≤k→GoodAt k h)
include hg
theorem lvNumber (p:LV):callFn (LX (cF Try.prog)) n h [.agg [.int .i64 p.1,.int .i64 p.2]] (cF Try.prog 102) = .ok (.int .i64 p.1) n h:=by
  have hgn:=hg n (Nat.le_refl _)
  rw [f102_eq]; unfold c102; rw [callFn_eq (by rfl)]
  simp (disch:=first|assumption|omega|(simp (disch:=first|assumption|omega) only [sB,reduceAdd,reduceLT,reduceLeDiff,reduceEqDiff,reduceMul,↓reduceIte];done)|fail) only [sA,↓reduceIte,reduceLT,reduceEqDiff,reduceAdd,reduceLeDiff]
theorem lvGreater (p q:LV):callFn (LX (cF Try.prog)) n h [.agg [.int .i64 p.1,.int .i64 p.2],.agg [.int .i64 q.1,.int .i64 q.2]] (cF Try.prog 103) = .ok (.agg [.int .i64 (grt p q).1,.int .i64 (grt p q).2]) n h:=by
  have hgn:=hg n (Nat.le_refl _)
  rw [f103_eq]; unfold c103; rw [callFn_eq (by rfl)]
  unfold grt
  by_cases h1:p.2 < q.2
  · rw [if_pos h1]
    simp (disch:=first|assumption|omega|(simp (disch:=first|assumption|omega) only [sB,reduceAdd,reduceLT,reduceLeDiff,reduceEqDiff,reduceMul,↓reduceIte];done)|fail) only [sA,↓reduceIte,reduceLT,reduceEqDiff,reduceAdd,reduceLeDiff]
  · rw [if_neg h1]
    simp (disch:=first|assumption|omega|(simp (disch:=first|assumption|omega) only [sB,reduceAdd,reduceLT,reduceLeDiff,reduceEqDiff,reduceMul,↓reduceIte];done)|fail) only [sA,↓reduceIte,reduceLT,reduceEqDiff,reduceAdd,reduceLeDiff]
end
theorem mergeF_nil1 (f:Nat) (b:List LV):mergeF f [] b=b:=by cases f <;> simp [mergeF]
theorem mergeF_nil2 (f:Nat) (a:List LV):mergeF f a []=a:=by cases f <;> cases a <;> simp [mergeF]
theorem mergeF_cons (f:Nat) (x y:LV) (a b:List LV):mergeF (f+1) (x::a) (y::b)=if x.1 < y.1 then x::mergeF f a (y::b) else if y.1 < x.1 then y::mergeF f (x::a) b else grt x y::mergeF f a b:=by rw [mergeF]
theorem el_hd {α:Type} {l:List α} (h:0 < l.length):l=l[0]::l.drop 1:=by
  cases l with
  | nil=>simp at h
  | cons a t=>rfl
theorem cut_tl {α:Type} {s:Sl α} : (s.cut 1 s.el.length).el=s.el.drop 1:=by
  rw [Sl.cut_el (Nat.le_refl _)]
  exact List.take_of_length_le (by rw [List.length_drop]; exact Nat.le_refl _)

theorem zn_snoc (N:Int) (vs:List LV) (v:LV):zn N (vs++[v])=if zn N vs≤v.2 then 0 else zn N vs:=by
  unfold zn
  rw [List.any_append]
  by_cases h1:vs.any (fun p=>decide (N≤p.2))=true
  · rw [h1,Bool.true_or]
    simp
  · simp only [Bool.not_eq_true] at h1
    rw [h1,Bool.false_or]
    simp
def Lev.sl (l:Lev):SLev:=⟨l.n,Sl.app l.v⟩
def encR (r:Lev×Int):D := .tup [encL r.1.sl,.int .i64 r.2]
theorem take_snoc {l:List LV} {i:Nat} (hi:i < l.length):l.take (i+1)=l.take i++[l[i]]:=List.take_succ_eq_append_getElem hi

theorem slD_nil {α:Type} {k:Nat} {enc:α→D}:slD k enc (Sl.app []) = .nils:=rfl
theorem norm_len (l:Lev):l.norm.v.length≤l.v.length:=nf_len (nfL_nf l.v)
theorem fineI_iff {a:Int}:fineI a=true↔0≤a∧a≤1000:=by unfold fineI; simp
theorem right_iff {l:Lev}:l.right=true ↔ (0≤l.n∧l.n≤1000)∧l.v.length≤64∧∀ p,p∈l.v → (0≤p.1∧p.1≤1000) ∧ (0≤p.2∧p.2≤1000):=by
  unfold Lev.right fineV
  simp [fineI_iff,and_assoc]
theorem nrm_right {l:Lev} (h:l.right=true):l.nrm = (l.norm,0):=by unfold Lev.nrm; rw [if_pos h]
theorem nrm_wrong {l:Lev} (h:¬ l.right=true):l.nrm = (⟨0,[]⟩,13):=by unfold Lev.nrm; rw [if_neg h]

end Go.Proofs.Ytpbpmpabndgeeaa
