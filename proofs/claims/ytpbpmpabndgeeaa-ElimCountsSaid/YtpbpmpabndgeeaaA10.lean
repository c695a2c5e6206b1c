/- Each operation, run. Eighth part: structs, slices written out, make, append. No condition. -/
import Derived.Test.YtpbpmpabndgeeaaA7

/- Each operation,run. Sixth part: slice expressions,composite literals,make. No condition. -/
set_option linter.unusedSimpArgs false
set_option linter.unusedVariables false
namespace Go.Proofs.Ytpbpmpabndgeeaa
open Go

section
variable {P:Program} {RC:Nat→Code→DCode→Prop} {Fb:Nat→Prop} {β:Nat→Bk} {U:Us} {N:Nat} {h:Hps} {w:World}

theorem and3 {a b c:Bool} (e:Bool.and a (Bool.and b c)=true):a=true∧b=true∧c=true:=by cases a <;> cases b <;> cases c <;> first | exact ⟨rfl,rfl,rfl⟩ | cases e
theorem and2 {a b:Bool} (e:Bool.and a b=true):a=true∧b=true:=by cases a <;> cases b <;> first | exact ⟨rfl,rfl⟩ | cases e
theorem ble_le {a b:Nat} (e:Nat.ble a b=true):a≤b:=Nat.le_of_ble_eq_true e
theorem blt_lt {a b:Nat} (e:Nat.blt a b=true):a < b:=Nat.le_of_ble_eq_true e
theorem beq_eq {a b:Nat} (e:Nat.beq a b=true):a=b:=Nat.eq_of_beq_eq_true e

theorem drop_take_all {es sp:List D} {u:Nat} : ((es++sp).take (es.length+sp.length)).drop u = (es++sp).drop u:=by
  rw [List.take_of_length_le (by rw [List.length_append]; exact Nat.le_refl _)]

theorem ms_cut {v:Value} {a:Addr} {k r off len c l u m:Nat} {full:Bool} (hv:Rep w (Mk β Fb h) β U v (.ms k r off len full)) (hve:v = .slice (some a) len c) (h1:l≤u) (h2:u≤m) (h3:m≤c) (hul:u≤len)
    (full':Bool) (hf':full'=true→m=u) (hg':full'=false→m=c∧full=false) (a':Addr) (ha:a'=if m=l then a else a.add (l*k)) (hkk:k = (β r).k) :
    Rep w (Mk β Fb h) β U (.slice (some a') (u - l) (m - l)) (.ms k r (off+l) (u - l) full'):=by
  cases hv with
  | ms a0 _ _ c0 _ hr ha0 hl hf hg hC hx =>
    simp only [Value.slice.injEq,Option.some.injEq] at hve
    obtain ⟨e1,_,e3⟩:=hve
    subst e1
    subst e3
    refine Rep.ms a' (off+l) (u - l) (m - l) full' hr ?_ (by omega) (fun e=>by have:=hf' e; omega) (fun e=>?_) ?_ (by omega)
    · by_cases hml:m=l
      · refine .inr ⟨by omega,by omega,?_⟩
        rw [if_pos hml] at ha
        rcases ha0 with rfl | ⟨_,_,h5⟩
        · rw [ha]
        · rw [ha,h5]
      · rw [if_neg hml] at ha
        rcases ha0 with rfl | ⟨_,h5,_⟩
        · left
          rw [ha,Addr.add_lit,Nat.add_mul]
        · omega
    · obtain ⟨h5,h6⟩:=hg' e
      rw [← hg h6]
      congr 1
      omega
    · exact Nat.le_trans (Nat.mul_le_mul_right _ (by omega)) hC

theorem slice_ok {t:TypeId} {e:TypeId} {ti:TypeInfo} (hu:P.underlying t=some (.slice e)) (hi':P.info? e=some ti) {a:Act} {env:Tr} {mm:Nat}
    (E:EnvOk w (Mk β Fb h) β U a.tmps env) (hm:mm≤a.tmps.size) {vx:Value} {x d:D} {n':Nat} {h':Hps} (hx:Rep w (Mk β Fb h) β U vx x) {lo hi mx:Option Operand}
    (hd:sliceD N h ti.size env x (lo.map (cO mm)) (hi.map (cO mm)) (mx.map (cO mm)) = .ok d n' h') :
    ∃ v,(Instr.sliceAt t vx (lo.map a.eval) (hi.map a.eval) (mx.map a.eval)).run P w = .ok v w∧Rep w (Mk β Fb h) β U v d∧h'=h:=by
  cases mx with
  | none =>
    have hd':slice2 N h ti.size env x (lo.map (cO mm)) (hi.map (cO mm)) = .ok d n' h':=hd
    cases hx with
    | nils =>
      · obtain ⟨l,hd1,hl⟩:=optN_inv (show optN env (lo.map (cO mm)) 0 (fun l=>optN env (hi.map (cO mm)) 0 fun u=>slN N h l u) = .ok d n' h' from hd')
        obtain ⟨u,hd2,hu'⟩:=optN_inv hd1
        obtain ⟨h1,h2⟩:=ifR_inv (show ifR (Bool.and (Nat.beq u 0) (Nat.beq l 0)) _=_ from hd2)
        obtain ⟨h3,h4⟩:=and2 h1
        have h3:=beq_eq h3
        have h4:=beq_eq h4
        subst h3
        subst h4
        cases h2
        have hb:=run_bounds2 (P:=P) (w:=w) (isS:=true) (cap:=0) (bd_of E hm hl) (bd_of E hm hu') (Nat.le_refl _) (Nat.le_refl _)
        exact ⟨_,run_slice_of hu hi' hb,.nils,rfl⟩
    | sl a b o c k' es sp full vs ha hM hk' hcap hf hc ho hr =>
      · obtain ⟨h0,hd0⟩:=ifR_inv (show ifR (Nat.beq ti.size k') (optN env (lo.map (cO mm)) 0 fun l=>optN env (hi.map (cO mm)) (lenL es) fun u=>slL N h ti.size es sp full l u) = .ok d n' h' from hd')
        have h0:=beq_eq h0
        subst h0
        obtain ⟨l,hd1,hl⟩:=optN_inv hd0
        obtain ⟨u,hd2,hu'⟩:=optN_inv hd1
        obtain ⟨h1,h2⟩:=ifR_inv (show ifR (Bool.and (Nat.ble l u) (Nat.ble u (lenL es+lenL sp))) _=_ from hd2)
        obtain ⟨h3,h4⟩:=and2 h1
        have h3:=ble_le h3
        have h4:=ble_le h4
        rw [lenL_eq] at hu'
        rw [lenL_eq,lenL_eq] at h4
        cases h2
        rw [takeL_eq,dropL_eq,dropL_eq,appL_eq,lenL_eq]
        have hb:=run_bounds2 (P:=P) (w:=w) (isS:=true) (cap:=c) (bd_of E hm hl) (bd_of E hm hu') h3 (Nat.le_trans h4 hcap)
        refine ⟨_,run_slice_of hu hi' hb,?_,rfl⟩
        have hrep:Rep w (Mk β Fb h) β U (.slice (some a) es.length c) (.sl ti.size es sp full):=Rep.sl a b o c ti.size es sp full vs ha hM hk' hcap hf hc ho hr
        rw [← drop_take_all (u:=u)]
        have ea : (if c=l then some a else Option.map (fun x:Addr=>x.add (l*ti.size)) (some a))=some (if c=l then a else a.add (l*ti.size)):=by
          split <;> rfl
        rw [ea]
        refine sl_cut hrep rfl h3 (m:=es.length+sp.length) h4 (Nat.le_refl _) _ (c - l) (by omega) (fun hf'=>?_) (fun h=>by omega) _ ?_
        · obtain ⟨h5,h6⟩:=and2 hf'
          have h6:=beq_eq h6
          have:=hf h5
          omega
        · split
          · right; exact ⟨by omega,rfl⟩
          · left; rfl
    | @ms _ r a0 off len c full hr ha0 hl0 hf hg hC hx =>
      · obtain ⟨h0,hd0⟩:=ifR_inv (show ifR (Nat.beq ti.size (β r).k) (optN env (lo.map (cO mm)) 0 fun l=>optN env (hi.map (cO mm)) len fun u=>slM N h ti.size r off len full l u) = .ok d n' h' from hd')
        have h0:=beq_eq h0
        obtain ⟨l,hd1,hl⟩:=optN_inv hd0
        obtain ⟨u,hd2,hu'⟩:=optN_inv hd1
        obtain ⟨h1,h2⟩:=ifR_inv (show ifR (Bool.and (Nat.ble l u) (Bool.and (Nat.ble u len) (Bool.or (Bool.not full) (Nat.beq u len)))) _=_ from hd2)
        obtain ⟨h3,h4,h40⟩:=and3 h1
        have h3:=ble_le h3
        have h4:=ble_le h4
        cases h2
        have hb:=run_bounds2 (P:=P) (w:=w) (isS:=true) (cap:=c) (bd_of E hm hl) (bd_of E hm hu') h3 (Nat.le_trans h4 hl0)
        refine ⟨_,run_slice_of hu hi' hb,?_,rfl⟩
        have hrep:Rep w (Mk β Fb h) β U (.slice (some a0) len c) (.ms ti.size r off len full):=h0 ▸ Rep.ms a0 off len c full hr ha0 hl0 hf hg hC hx
        have ea : (if c=l then some a0 else Option.map (fun x:Addr=>x.add (l*ti.size)) (some a0))=some (if c=l then a0 else a0.add (l*ti.size)):=by split <;> rfl
        rw [ea]
        refine ms_cut hrep rfl h3 (Nat.le_trans h4 hl0) (Nat.le_refl _) h4 _ (fun hf'=>?_) (fun hf'=>⟨rfl,hf'⟩) _ rfl h0
        rw [hf'] at h40
        have h6:=beq_eq (show Nat.beq u len=true from h40)
        have:=hf hf'
        omega
    | _=>cases hd'
  | some m =>
    cases hi with
    | none=>cases hd
    | some hi =>
      · have hd':slice3 N h ti.size env x (lo.map (cO mm)) (some (cO mm hi)) (some (cO mm m)) = .ok d n' h':=hd
        have bdm:∀ {o:Operand} {q:Nat},((some (cO mm o))=none∧q=0) ∨ (∃ y k,some (cO mm o)=some y∧ev env y = .int k (.ofNat q))→∃ k,a.eval o = .int k (q:Int):=by
          intro o q hq
          rcases hq with ⟨hq,_⟩ | ⟨y,k,hq,hq2⟩
          · cases hq
          · simp only [Option.some.injEq] at hq
            subst hq
            have:=ev_ok E hm o
            rw [hq2] at this
            exact ⟨k,this.int_inv⟩
        cases hx with
        | nils =>
          obtain ⟨l,hd1,hl⟩:=optN_inv (show optN env (lo.map (cO mm)) 0 (fun l=>optN env (some (cO mm hi)) 0 fun u=>optN env (some (cO mm m)) 0 fun q=>slN3 N h l u q) = .ok d n' h' from hd')
          obtain ⟨u,hd2,hu'⟩:=optN_inv hd1
          obtain ⟨q,hd3,hq'⟩:=optN_inv hd2
          obtain ⟨ku,hku⟩:=bdm hu'
          obtain ⟨kq,hkq⟩:=bdm hq'
          obtain ⟨h1,h2⟩:=ifR_inv (show ifR (Bool.and (Nat.beq u 0) (Bool.and (Nat.beq l 0) (Nat.beq q 0))) _=_ from hd3)
          obtain ⟨h3,h4,h5⟩:=and3 h1
          have h3:=beq_eq h3
          have h4:=beq_eq h4
          have h5:=beq_eq h5
          subst h3
          subst h4
          subst h5
          cases h2
          have hb:=run_bounds3 (P:=P) (w:=w) (isS:=true) (len:=0) (cap:=0) (bd_of E hm hl) hku hkq (Nat.le_refl _) (Nat.le_refl _) (Nat.le_refl _)
          exact ⟨_,run_slice_of hu hi' hb,.nils,rfl⟩
        | sl a b o c k' es sp full vs ha hM hk' hcap hf hc ho hr =>
          obtain ⟨h0,hd0⟩:=ifR_inv (show ifR (Nat.beq ti.size k') (optN env (lo.map (cO mm)) 0 fun l=>optN env (some (cO mm hi)) 0 fun u=>optN env (some (cO mm m)) 0 fun q=>slL3 N h ti.size es sp l u q) = .ok d n' h' from hd')
          have h0:=beq_eq h0
          subst h0
          obtain ⟨l,hd1,hl⟩:=optN_inv hd0
          obtain ⟨u,hd2,hu'⟩:=optN_inv hd1
          obtain ⟨q,hd3,hq'⟩:=optN_inv hd2
          obtain ⟨ku,hku⟩:=bdm hu'
          obtain ⟨kq,hkq⟩:=bdm hq'
          obtain ⟨h1,h2⟩:=ifR_inv (show ifR (Bool.and (Nat.ble l u) (Bool.and (Nat.ble u q) (Nat.ble q (lenL es+lenL sp)))) _=_ from hd3)
          obtain ⟨h3,h4,h5⟩:=and3 h1
          have h3:=ble_le h3
          have h4:=ble_le h4
          have h5:=ble_le h5
          rw [lenL_eq,lenL_eq] at h5
          cases h2
          rw [takeL_eq,dropL_eq,dropL_eq,appL_eq,takeL_eq]
          have hb:=run_bounds3 (P:=P) (w:=w) (isS:=true) (len:=es.length) (cap:=c) (bd_of E hm hl) hku hkq h3 h4 (Nat.le_trans h5 hcap)
          refine ⟨_,run_slice_of hu hi' hb,?_,rfl⟩
          have hrep:Rep w (Mk β Fb h) β U (.slice (some a) es.length c) (.sl ti.size es sp full):=Rep.sl a b o c ti.size es sp full vs ha hM hk' hcap hf hc ho hr
          have ea : (if q=l then some a else Option.map (fun x:Addr=>x.add (l*ti.size)) (some a))=some (if q=l then a else a.add (l*ti.size)):=by
            split <;> rfl
          rw [ea]
          refine sl_cut hrep rfl h3 h4 h5 _ (q - l) (Nat.le_refl _) (fun hf'=>?_) (fun h=>by omega) _ ?_
          · have h6:=beq_eq hf'
            omega
          · split
            · right; exact ⟨by omega,rfl⟩
            · left; rfl
        | @ms _ r a0 off len c full hr ha0 hl0 hf hg hC hx =>
          obtain ⟨h0,hd0⟩:=ifR_inv (show ifR (Nat.beq ti.size (β r).k) (optN env (lo.map (cO mm)) 0 fun l=>optN env (some (cO mm hi)) 0 fun u=>optN env (some (cO mm m)) 0 fun q=>slM3 N h ti.size r off len l u q) = .ok d n' h' from hd')
          have h0:=beq_eq h0
          obtain ⟨l,hd1,hl⟩:=optN_inv hd0
          obtain ⟨u,hd2,hu'⟩:=optN_inv hd1
          obtain ⟨q,hd3,hq'⟩:=optN_inv hd2
          obtain ⟨ku,hku⟩:=bdm hu'
          obtain ⟨kq,hkq⟩:=bdm hq'
          obtain ⟨h1,h2⟩:=ifR_inv (show ifR (Bool.and (Nat.ble l u) (Bool.and (Nat.beq u q) (Nat.ble q len))) _=_ from hd3)
          obtain ⟨h3,h4,h5⟩:=and3 h1
          have h3:=ble_le h3
          have h4:=beq_eq h4
          have h5:=ble_le h5
          subst h4
          cases h2
          have hb:=run_bounds3 (P:=P) (w:=w) (isS:=true) (len:=len) (cap:=c) (bd_of E hm hl) hku hkq h3 (Nat.le_refl _) (Nat.le_trans h5 hl0)
          refine ⟨_,run_slice_of hu hi' hb,?_,rfl⟩
          have hrep:Rep w (Mk β Fb h) β U (.slice (some a0) len c) (.ms ti.size r off len full):=h0 ▸ Rep.ms a0 off len c full hr ha0 hl0 hf hg hC hx
          have ea : (if u=l then some a0 else Option.map (fun x:Addr=>x.add (l*ti.size)) (some a0))=some (if u=l then a0 else a0.add (l*ti.size)):=by split <;> rfl
          rw [ea]
          exact ms_cut hrep rfl h3 (Nat.le_refl _) (Nat.le_trans h5 hl0) h5 true (fun _=>rfl) (fun e=>by cases e) _ rfl h0
        | _=>cases hd'

theorem sslice_ok {t:TypeId} (hu:P.underlying t=some .string) {a:Act} {env:Tr} {mm:Nat}
    (E:EnvOk w (Mk β Fb h) β U a.tmps env) (hm:mm≤a.tmps.size) {vx:Value} {x d:D} {n':Nat} {h':Hps} (hx:Rep w (Mk β Fb h) β U vx x) {lo hi:Option Operand}
    (hd:ssliceD N h env x (lo.map (cO mm)) (hi.map (cO mm)) = .ok d n' h') :
    ∃ v,(Instr.sliceAt t vx (lo.map a.eval) (hi.map a.eval) none).run P w = .ok v w∧Rep w (Mk β Fb h) β U v d∧h'=h:=by
  cases hx with
  | str s =>
    obtain ⟨l,hd1,hl⟩:=optN_inv (show optN env (lo.map (cO mm)) 0 (fun l=>optN env (hi.map (cO mm)) (lenN (sb s)) fun u=>slS N h (sb s) l u) = .ok d n' h' from hd)
    obtain ⟨u,hd2,hu'⟩:=optN_inv hd1
    obtain ⟨h1,h2⟩:=ifR_inv (show ifR (Bool.and (Nat.ble u (lenN (sb s))) (Nat.ble l u)) _=_ from hd2)
    obtain ⟨h3,h4⟩:=and2 h1
    have h3:=ble_le h3
    have h4:=ble_le h4
    rw [lenN_eq,sb_len] at h3 hu'
    cases h2
    have hb:=run_bounds2 (P:=P) (w:=w) (isS:=false) (bd_of E hm hl) (bd_of E hm hu') h4 h3
    refine ⟨.string (s.extract l u),?_,?_,rfl⟩
    · simp [Instr.sliceAt,Instr.slice,run_underlying hu,hb]
    · rw [takeN_eq,dropN_eq]
      have:sb (s.extract l u) = ((sb s).drop l).take (u - l):=by
        unfold sb
        rw [← List.map_drop,← List.map_take]
        congr 1
        simp [ByteArray.data_extract,List.extract_eq_take_drop]
      rw [← this]
      exact .str _
  | _=>cases hd

end
end Go.Proofs.Ytpbpmpabndgeeaa

/- Each operation,run. Seventh part: structs,composite literals,make. No condition. -/
namespace Go.Proofs.Ytpbpmpabndgeeaa
open Go

theorem foldl_set (cs:List Value):∀ (off s:Nat) (arr:Array Value),off+s+cs.length≤arr.size →
    ((cs.zipIdx s).foldl (fun (a:Array Value) (p:Value×Nat)=>a.setIfInBounds (off+p.2) p.1) arr).size=arr.size ∧
    ∀ x,((cs.zipIdx s).foldl (fun (a:Array Value) (p:Value×Nat)=>a.setIfInBounds (off+p.2) p.1) arr).getD x undef=if off+s≤x∧x < off+s+cs.length then cs.getD (x - (off+s)) undef else arr.getD x undef:=by
  induction cs with
  | nil =>
    intro off s arr _
    refine ⟨rfl,fun x=>?_⟩
    rw [if_neg (by simp only [List.length_nil]; omega)]
    rfl
  | cons c cs ih =>
    intro off s arr hl
    simp only [List.length_cons] at hl
    have h1:=ih off (s+1) (arr.setIfInBounds (off+s) c) (by simp; omega)
    refine ⟨?_,fun x=>?_⟩
    · rw [List.zipIdx_cons,List.foldl_cons]
      rw [h1.1]; simp
    · rw [List.zipIdx_cons,List.foldl_cons,h1.2 x]
      by_cases h2:x=off+s
      · subst h2
        rw [if_neg (by omega),if_pos (by simp only [List.length_cons]; omega),Nat.sub_self]
        have:off+s < arr.size:=by omega
        simp [Array.getD,this]
      · by_cases h3:off+s≤x∧x < off+s + (cs.length+1)
        · rw [if_pos (by omega),if_pos (by simp only [List.length_cons]; omega),show x - (off+s) = (x - (off + (s+1)))+1 from by omega]
          rfl
        · rw [if_neg (by omega),if_neg (by simp only [List.length_cons]; omega)]
          simp only [Array.getD_eq_getD_getElem?]
          rw [Array.getElem?_setIfInBounds_ne (by omega)]

theorem fill_step {place:Nat→Option (Nat×Nat)} {cells:Array Value} {i off size:Nat} {v:Value} {rest:List (Nat×Value)} (hp:place i=some (off,size)) (hs:v.cells.size=size) (ho:off+size≤cells.size) :
    ∃ c:Array Value,Instr.fill place cells ((i,v)::rest)=Instr.fill place c rest∧c.size=cells.size ∧
      ∀ x,c.getD x undef=if off≤x∧x < off+size then v.cells.getD (x - off) undef else cells.getD x undef:=by
  refine ⟨v.cells.zipIdx.foldl (fun cs (p:Value×Nat)=>cs.setIfInBounds (off+p.2) p.1) cells,?_,?_⟩
  · have h1:¬ ((v.cells.size≠size || decide (off+v.cells.size > cells.size))=true):=by
      simp [hs]
      omega
    conv=>lhs; unfold Instr.fill
    rw [hp]
    simp only
    rw [if_neg h1]
  · have h2:v.cells.zipIdx.foldl (fun cs (p:Value×Nat)=>cs.setIfInBounds (off+p.2) p.1) cells = (v.cells.toList.zipIdx 0).foldl (fun cs (p:Value×Nat)=>cs.setIfInBounds (off+p.2) p.1) cells:=by
      rw [← Array.foldl_toList]
      simp
    have h3:=foldl_set v.cells.toList off 0 cells (by rw [Array.length_toList]; omega)
    rw [h2]
    refine ⟨h3.1,fun x=>?_⟩
    rw [h3.2 x,Array.length_toList,hs,getD_toList]
    rfl

section
variable {P:Program} {RC:Nat→Code→DCode→Prop} {Fb:Nat→Prop} {β:Nat→Bk} {U:Us} {N:Nat} {h:Hps} {w:World}

def CellsOk (w:World) (M:Nat→Prop) (β:Nat→Bk) (U:Us) (c:Array Value) (l:List D):Prop :=
  c.size=l.length∧∀ x,x < l.length → (c.getD x undef).oneCell'=true∧Rep w M β U (c.getD x undef) (l.getD x .junk)

theorem CellsOk.splice {M:Nat→Prop} {c c' vs:Array Value} {l xs:List D} {off size:Nat} (H:CellsOk w M β U c l) (V:CellsOk w M β U vs xs) (hs:xs.length=size) (ho:off+size≤l.length) (hc':c'.size=c.size)
    (hg:∀ x,c'.getD x undef=if off≤x∧x < off+size then vs.getD (x - off) undef else c.getD x undef):CellsOk w M β U c' (overwrite xs off l):=by
  rw [overwrite_eq xs off l (by omega)]
  refine ⟨?_,fun x hx=>?_⟩
  · simp only [List.length_append,List.length_take,List.length_drop]
    rw [hc',H.1]
    omega
  · have hx':x < l.length:=by
      simp only [List.length_append,List.length_take,List.length_drop] at hx
      omega
    rw [hg x,getD_splice l xs .junk off x (by omega),hs]
    by_cases h1:off≤x∧x < off+size
    · rw [if_pos h1,if_pos h1]; exact V.2 _ (by omega)
    · rw [if_neg h1,if_neg h1]; exact H.2 _ hx'

theorem cellsX_ok {M:Nat→Prop} {v:Value} {d:D} {xs:List D} (hv:Rep w M β U v d) (hx:cellsX d=some xs):CellsOk w M β U v.cells xs:=by
  have hs:solid d=true∧cells d=xs:=by cases d <;> first | (cases hx; done) | (cases hx; exact ⟨rfl,rfl⟩)
  obtain ⟨h1,h2⟩:=hv.cells hs.1
  rw [hs.2] at h1 h2
  exact ⟨h1,h2⟩

theorem fillP_none (e:Tr) (ps:List (Nat×Nat×Opd)):fillP e ps none=none:=by
  induction ps with
  | nil=>rfl
  | cons p ps ih =>
    show fillP e ps (fld2 p.2.1 p.1 none (cellsX (ev e p.2.2)))=none
    have:fld2 p.2.1 p.1 none (cellsX (ev e p.2.2))=none:=by cases cellsX (ev e p.2.2) <;> rfl
    rw [this]; exact ih

theorem fill_ok {M:Nat→Prop} {a:Act} {env:Tr} {mm:Nat} (E:EnvOk w M β U a.tmps env) (hm:mm≤a.tmps.size) {plc place:Nat→Option (Nat×Nat)}
    (hpl:∀ (i:Nat) (q:Nat×Nat),plc i=some q→place i=some q) :
    ∀ (parts:List (Nat×Operand)) (ps:List (Nat×Nat×Opd)) (c:Array Value) (l l':List D),cParts mm plc parts=some ps→CellsOk w M β U c l→fillP env ps (some l)=some l' →
      ∃ c',Instr.fill place c (parts.map fun p => (p.1,a.eval p.2))=some c'∧CellsOk w M β U c' l':=by
  intro parts
  induction parts with
  | nil =>
    intro ps c l l' hp H hf
    cases hp
    cases hf
    exact ⟨c,rfl,H⟩
  | cons p parts ih =>
    intro ps c l l' hp H hf
    obtain ⟨i,x⟩:=p
    unfold cParts at hp
    cases h1:plc i with
    | none=>rw [h1] at hp; cases hp
    | some q =>
        rw [h1] at hp
        cases h3:cParts mm plc parts with
        | none=>rw [h3] at hp; cases hp
        | some ps2 =>
          rw [h3] at hp
          simp only [Option.some.injEq] at hp
          subst hp
          have hf':fillP env ps2 (fld2 q.2 q.1 (some l) (cellsX (ev env (cO mm x))))=some l':=hf
          cases h4:cellsX (ev env (cO mm x)) with
          | none=>rw [h4] at hf'; rw [show fld2 q.2 q.1 (some l) none=none from rfl,fillP_none] at hf'; cases hf'
          | some xs =>
            rw [h4] at hf'
            have hf2:fillP env ps2 (Bool.rec (motive:=fun _=>Option (List D)) none (some (overwrite xs q.1 l)) (Bool.and (Nat.beq q.2 (lenL xs)) (Nat.ble (q.1+q.2) (lenL l))))=some l':=hf'
            cases h5:Bool.and (Nat.beq q.2 (lenL xs)) (Nat.ble (q.1+q.2) (lenL l)) with
            | false=>rw [h5] at hf2; rw [fillP_none] at hf2; cases hf2
            | true =>
              rw [h5] at hf2
              obtain ⟨h6,h7⟩:=and2 h5
              have h6:=beq_eq h6
              have h7:=ble_le h7
              rw [lenL_eq] at h6 h7
              have V:=cellsX_ok (ev_ok E hm x) h4
              obtain ⟨c2,h8,h9,h10⟩:=fill_step (place:=place) (cells:=c) (i:=i) (v:=a.eval x) (rest:=parts.map fun p => (p.1,a.eval p.2)) (hpl i q h1) (V.1.trans h6.symm) (by rw [H.1]; exact h7)
              obtain ⟨c3,h11,h12⟩:=ih ps2 c2 _ l' h3 (H.splice V h6.symm h7 h9 h10) hf2
              exact ⟨c3,by rw [List.map_cons,h8]; exact h11,h12⟩

theorem fill_rows {size:Nat}:∀ (vs:List Value) (s:Nat) (c:Array Value),(∀ v,v∈vs→v.cells.size=size) → (s+vs.length)*size≤c.size →
    ∃ c':Array Value,Instr.fill (fun i=>some (i*size,size)) c ((vs.zipIdx s).map fun p => (p.2,p.1))=some c'∧c'.size=c.size ∧
      (∀ x,x < s*size→c'.getD x undef=c.getD x undef)∧∀ i,i < vs.length→∀ j,j < size→c'.getD ((s+i)*size+j) undef = (vs.getD i undef).cells.getD j undef:=by
  intro vs
  induction vs with
  | nil =>
    intro s c _ _
    exact ⟨c,rfl,rfl,fun _ _=>rfl,fun i hi=>absurd hi (Nat.not_lt_zero _)⟩
  | cons v vs ih =>
    intro s c hv hl
    simp only [List.length_cons] at hl
    have hl1:s*size+size≤c.size:=by
      have : (s+1)*size ≤ (s + (vs.length+1))*size:=Nat.mul_le_mul_right _ (by omega)
      rw [Nat.add_mul,Nat.one_mul] at this
      omega
    obtain ⟨c2,h1,h2,h3⟩:=fill_step (place:=fun i=>some (i*size,size)) (cells:=c) (i:=s) (v:=v) (rest := (vs.zipIdx (s+1)).map fun p => (p.2,p.1)) rfl (hv v (by simp)) hl1
    obtain ⟨c3,h4,h5,h6,h7⟩:=ih (s+1) c2 (fun u hu=>hv u (by simp [hu])) (by rw [h2,show s+1+vs.length=s + (vs.length+1) from by omega]; exact hl)
    refine ⟨c3,?_,h5.trans h2,fun x hx=>?_,fun i hi j hj=>?_⟩
    · rw [List.zipIdx_cons,List.map_cons,h1,h4]
    · rw [h6 x (by rw [Nat.add_mul]; omega),h3 x,if_neg (by omega)]
    · cases i with
      | zero =>
        rw [Nat.add_zero,h6 _ (by rw [Nat.add_mul,Nat.one_mul]; omega),h3,if_pos (by omega)]
        congr 1
        omega
      | succ i =>
        rw [show s + (i+1)=s+1+i from by omega]
        exact h7 i (by simpa using hi) j hj

theorem Rep.clo {M:Nat→Prop}:∀ (f:Nat) {v:Value} {d:D},Rep w M β U v d→clo f d=true→Rep w M β No v d:=by
  intro f
  induction f with
  | zero=>intro v d _ h; cases h
  | succ f ih =>
    intro v d hr hc
    have hc':clo0 (Ytpbpmpabndgeeaa.clo f) d=true:=hc
    have hl:∀ {l:List D},allL (Ytpbpmpabndgeeaa.clo f) l=true→∀ i,i < l.length→Ytpbpmpabndgeeaa.clo f (l.getD i .junk)=true:=by
      intro l hl i hi
      rw [allL_eq,List.all_eq_true] at hl
      rw [List.getD_eq_getElem?_getD,List.getElem?_eq_getElem hi]
      exact hl _ (List.getElem_mem hi)
    cases hr with
    | junk=>exact .junk
    | int=>exact .int
    | bool=>exact .bool
    | str s=>exact .str s
    | nilp=>exact .nilp
    | nilf=>exact .nilf
    | nili=>exact .nili
    | nilm=>exact .nilm
    | nils=>exact .nils
    | ip b o e j vs hM hcl ho hr=>exact .ip b o e j vs hM hcl ho hr
    | sl a b o c k es sp full vs ha hM hk hcap hf hcl ho hr=>exact .sl a b o c k es sp full vs ha hM hk hcap hf hcl ho hr
    | fn g a c first capt ha hcc hra hrc =>
      obtain ⟨h1,h2⟩:=and2 (show Bool.and (allL (Ytpbpmpabndgeeaa.clo f) first) (allL (Ytpbpmpabndgeeaa.clo f) capt)=true from hc')
      exact .fn g a c first capt ha hcc (fun i hi=>ih (hra i hi) (hl h1 i hi)) (fun i hi=>ih (hrc i hi) (hl h2 i hi))
    | iface h=>exact .iface (ih h hc')
    | agg vs cs hle ho hr=>exact .agg vs cs hle ho (fun i hi=>ih (hr i hi) (hl (show allL (Ytpbpmpabndgeeaa.clo f) cs=true from hc') i hi))
    | tup vs cs hle hr=>exact .tup vs cs hle (fun i hi=>ih (hr i hi) (hl (show allL (Ytpbpmpabndgeeaa.clo f) cs=true from hc') i hi))
    | _=>cases hc'

theorem okF_inv {k:Nat} {d:D} (e:okF k d=true):solid d=true ∧ (cells d).length=k:=by
  cases d <;> first | (cases e; done) | (exact ⟨rfl,by have h1:=beq_eq e; rw [lenL_eq] at h1; exact h1.symm⟩)

theorem Adv.beside {w':World} {o:Obj} (g:Grew w w' o):Adv β U h w β (Ad U N) h w' :=
  ⟨g.os,g.tape,g.output,by rw [g.size]; omega,Sub.ad _ _,fun _ _=>rfl,fun _ hb _=>g.old hb,fun _ _ ht=>ht⟩
theorem Inv.beside (I:Inv RC β U Fb h w) {w':World} {o:Obj} (g:Grew w w' o):Inv RC β (Ad U N) Fb h w' :=
  I.step RC (Adv.beside g) (fun r hr => .inl ⟨rfl,g.old (I.lt r hr)⟩) I.inj (fun b hb => (I.frm b hb).2)

theorem row_ok (I:Inv RC β U Fb h w) (hN:¬ U N) {w':World} {c:Array Value} {T:TypeId} {fr:Nat×Nat} (hfr:fr = (0,0)∨c.size≤fr.1) (g:Grew w w' (.cells c T fr)) {k C:Nat} {l:List D} (hC:c.size=C) (hl:l.length*k≤C) (hk:∀ e,e∈l → (cells e).length=k)
    (hc:∀ i,i < l.length→∀ j,j < k → (c.getD (i*k+j) undef).oneCell'=true∧Rep w (Mk β Fb h) β U (c.getD (i*k+j) undef) ((cells (l.getD i .junk)).getD j .junk))
    (n cap:Nat) (full:Bool) (hn:n=l.length) (hcap:n≤cap) (hf:full=true→cap=n) (hg:full=false→cap*k=C) (hle:cap*k≤C) (hx:cap≤maxLen) :
    Rep w' (Mk (upd β N ⟨w.heap.size,k,C⟩) Fb ((N,.row k l)::h)) (upd β N ⟨w.heap.size,k,C⟩) (Ad U N) (.slice (some ⟨w.heap.size,0,none⟩) n cap) (.ms k N 0 n full) ∧
      Inv RC (upd β N ⟨w.heap.size,k,C⟩) (Ad U N) Fb ((N,.row k l)::h) w'∧Adv β U h w (upd β N ⟨w.heap.size,k,C⟩) (Ad U N) ((N,.row k l)::h) w':=by
  have hA:=Adv.new I hN g (.row k l) k C
  refine ⟨?_,Inv.new I hN g (.row k l) k C ⟨rfl,hl,hk,c,T,⟨fr,g.new,hfr⟩,hC,fun i hi j hj=>⟨(hc i hi j hj).1,(hc i hi j hj).2.adv hA (Sub.refl _) _ (Sub.ad _ _)⟩⟩,hA⟩
  have:=Rep.ms (w:=w') (M:=Mk (upd β N ⟨w.heap.size,k,C⟩) Fb ((N,.row k l)::h)) (β:=upd β N ⟨w.heap.size,k,C⟩) (N:=Ad U N) (r:=N) ⟨w.heap.size,0,none⟩ 0 n cap full (.inr rfl)
    (.inl (by rw [upd_same,Nat.zero_mul])) hcap hf (fun e=>by rw [upd_same,Nat.zero_add]; exact hg e) (by rw [upd_same,Nat.zero_add]; exact hle) hx
  rw [upd_same] at this
  exact this

end
end Go.Proofs.Ytpbpmpabndgeeaa

/- Each operation,run. Eighth part: structs,slices written out,make,append. No condition. -/
namespace Go.Proofs.Ytpbpmpabndgeeaa
open Go

section
variable {P:Program} {RC:Nat→Code→DCode→Prop} {Fb:Nat→Prop} {β:Nat→Bk} {U:Us} {N:Nat} {h:Hps} {w:World}

theorem getD_getElem! {α:Type} [Inhabited α] (z:Array α) (i:Nat) (u:α) (hi:i < z.size):z[i]! = z.getD i u:=by simp [Array.getD,hi]
theorem madeCells_getD {z:Array Value} {m k i j:Nat} (hz:z.size=k) (hi:i < m) (hj:j < k) : (madeCells z (m*k)).getD (i*k+j) undef=z.getD j undef:=by
  have hlt:i*k+j < m*k:=by
    have : (i+1)*k≤m*k:=Nat.mul_le_mul_right _ hi
    rw [Nat.add_mul,Nat.one_mul] at this
    omega
  have hmod : (i*k+j) % k=j:=by rw [Nat.mul_comm,Nat.mul_add_mod,Nat.mod_eq_of_lt hj]
  have e1 : (madeCells z (m*k)).getD (i*k+j) undef=z[(i*k+j) % z.size]! := by
    simp [madeCells,Array.getD,hlt]
  rw [e1,hz,hmod]
  exact getD_getElem! z j undef (by omega)

theorem mksl_ok (I:Inv RC β U Fb h w) (hN:¬ U N) {t e:TypeId} {ti:TypeInfo} {z:Value} (hu:P.underlying t=some (.slice e)) (hi:P.info? e=some ti) (hz:ti.zero=some z) (hzk:okF ti.size (ofV z)=true) (hb:0 < ti.bytes)
    {vx:Value} {x d:D} {n':Nat} {h':Hps} (hx:Rep w (Mk β Fb h) β U vx x) (hd:natR (mkslD N h ti.size ti.bytes (ofV z)) x = .ok d n' h') :
    ∃ v w' β',(Instr.makeSlice t vx vx).run P w = .ok v w'∧Rep w' (Mk β' Fb h') β' (Ad U N) v d∧Inv RC β' (Ad U N) Fb h' w'∧Adv β U h w β' (Ad U N) h' w':=by
  obtain ⟨kx,m,rfl,hd⟩:=natR_inv hd
  have:=hx.int_inv
  subst this
  obtain ⟨h1,h2⟩:=ifR_inv (show ifR (Nat.ble (m*ti.bytes) most) (.ok (.ms ti.size N 0 m false) N ((N,.row ti.size (repL (ofV z) m))::h))=_ from hd)
  have h1:=ble_le h1
  unfold most at h1
  cases h2
  have hm:m≤140737488355328:=Nat.le_trans (Nat.le_mul_of_pos_right m hb) h1
  obtain ⟨hs,hk⟩:=okF_inv hzk
  obtain ⟨h3,h4⟩ := (ofV_rep w (Mk β Fb h) β U z).cells hs
  rw [hk] at h3 h4
  have hrun:=run_make (P:=P) w t e ti z hu hi hz kx kx (m:Int) (m:Int) (by omega) (Int.le_refl _) (by rw [← Int.natCast_mul,Nat.mul_comm]; omega) (by omega)
  have g:Grew w (w.alloc (.cells (madeCells z.cells (m*ti.size)) e)) (.cells (madeCells z.cells (m*ti.size)) e (0,0)):=Grew.alloc _ _
  rw [repL_eq]
  have hR:=row_ok I hN (.inl rfl) g (k:=ti.size) (C:=m*ti.size) (l:=List.replicate m (ofV z)) (size_madeCells _ _) (by simp) (fun e he=>by rw [List.eq_of_mem_replicate he]; exact hk)
    (fun i hi j hj=>by
      have hi':i < m:=by simpa using hi
      rw [madeCells_getD h3 hi' hj]
      have : (List.replicate m (ofV z)).getD i .junk=ofV z:=by simp [List.getD_eq_getElem?_getD,hi']
      rw [this]
      exact h4 j hj)
    m m false (by simp) (Nat.le_refl _) (fun e=>by cases e) (fun _=>rfl) (Nat.le_refl _) (by unfold maxLen; omega)
  exact ⟨_,_,_,hrun,hR.1,hR.2.1,hR.2.2⟩

theorem range_zip {α:Type}:∀ (l:List (Nat×α)) (n s:Nat),l.map (·.1)=List.range' s n→l = ((l.map (·.2)).zipIdx s).map fun p => (p.2,p.1):=by
  intro l
  induction l with
  | nil=>intro n s _; rfl
  | cons p l ih =>
    intro n s hl
    cases n with
    | zero=>cases hl
    | succ n =>
      rw [List.range'_succ,List.map_cons] at hl
      simp only [List.cons.injEq] at hl
      have:=ih n (s+1) hl.2
      rw [List.map_cons,List.zipIdx_cons,List.map_cons,← this]
      obtain ⟨a,b⟩:=p
      simp only at hl
      rw [hl.1]

theorem bsl_ok (I:Inv RC β U Fb h w) (hN:¬ U N) {t e:TypeId} {ti:TypeInfo} (hu:P.underlying t=some (.slice e)) (hi:P.info? e=some ti) (hz:ti.zero.isSome=true) {a:Act} {env:Tr} {mm:Nat} (E:EnvOk w (Mk β Fb h) β U a.tmps env) (hm:mm≤a.tmps.size)
    {len:Nat} {parts:List (Nat×Operand)} (hp:parts.map (·.1)=List.range len) (hmax:len*ti.size≤16777216) (hmx:len≤maxLen) {d:D} {n':Nat} {h':Hps} (hd:bslD N h ti.size (evs env (parts.map fun p=>cO mm p.2)) = .ok d n' h') :
    ∃ v w' β',(Instr.buildSlice t len (parts.map fun p => (p.1,a.eval p.2)).toArray).run P w = .ok v w'∧Rep w' (Mk β' Fb h') β' (Ad U N) v d∧Inv RC β' (Ad U N) Fb h' w'∧Adv β U h w β' (Ad U N) h' w':=by
  obtain ⟨z,hz⟩:=Option.isSome_iff_exists.1 hz
  have hpl:parts.length=len:=by
    have:=congrArg List.length hp
    simpa using this
  rw [evs_eq,List.map_map] at hd
  obtain ⟨l,hl⟩:∃ l,l=parts.map (ev env ∘ fun p=>cO mm p.2):=⟨_,rfl⟩
  rw [← hl] at hd
  have hll:l.length=len:=by rw [hl,List.length_map,hpl]
  have hd':Bool.rec (motive:=fun _=>Rd) (ifR (allL (okF ti.size) l) (.ok (.ms ti.size N 0 (lenL l) true) N ((N,.row ti.size l)::h))) (.ok (.sl ti.size l [] true) N h) (allL (okE ti.size) l) = .ok d n' h':=hd
  have hok:∀ e,e∈l→okF ti.size e=true:=by
    cases hb:allL (okE ti.size) l with
    | true =>
      rw [allL_eq,List.all_eq_true] at hb
      intro e he
      exact (and2 (show Bool.and (okF ti.size e) (clo 20 e)=true from hb e he)).1
    | false =>
      rw [hb] at hd'
      have h1 := (ifR_inv hd').1
      rw [allL_eq,List.all_eq_true] at h1
      exact h1
  have hvs:∀ i,i < len→Rep w (Mk β Fb h) β U ((parts.map fun p=>a.eval p.2).getD i undef) (l.getD i .junk):=by
    intro i hi
    have hi':i < parts.length:=by omega
    have e1 : (parts.map fun p=>a.eval p.2).getD i undef=a.eval (parts[i]).2:=by simp [List.getD_eq_getElem?_getD,hi']
    have e2:l.getD i .junk=ev env (cO mm (parts[i]).2):=by rw [hl]; simp [List.getD_eq_getElem?_getD,hi']
    rw [e1,e2]
    exact ev_ok E hm _
  have hel:∀ i,i < len→okF ti.size (l.getD i .junk)=true:=by
    intro i hi
    apply hok
    rw [List.getD_eq_getElem?_getD,List.getElem?_eq_getElem (by omega)]
    exact List.getElem_mem _
  have hcs:∀ i,i < len → ((parts.map fun p=>a.eval p.2).getD i undef).cells.size=ti.size∧∀ j,j < ti.size → (((parts.map fun p=>a.eval p.2).getD i undef).cells.getD j undef).oneCell'=true ∧
      Rep w (Mk β Fb h) β U (((parts.map fun p=>a.eval p.2).getD i undef).cells.getD j undef) ((cells (l.getD i .junk)).getD j .junk):=by
    intro i hi
    obtain ⟨h1,h2⟩:=okF_inv (hel i hi)
    obtain ⟨h3,h4⟩ := (hvs i hi).cells h1
    exact ⟨h3.trans h2,fun j hj=>h4 j (by omega)⟩
  obtain ⟨zc,hzc⟩:∃ zc:Array Value,zc=if len*ti.size=0 then #[] else z.cells:=⟨_,rfl⟩
  obtain ⟨c,h5,h6,_,h7⟩:=fill_rows (size:=ti.size) (parts.map fun p=>a.eval p.2) 0 ((Array.range (len*ti.size)).map (zc[· % zc.size]!)) (fun v hv=>by
      obtain ⟨i,hi,rfl⟩:=List.mem_iff_getElem.1 hv
      have hi':i < len:=by rw [List.length_map] at hi; omega
      have := (hcs i hi').1
      rwa [List.getD_eq_getElem?_getD,List.getElem?_eq_getElem hi] at this) (by simp [hpl])
  have hpe : (parts.map fun p => (p.1,a.eval p.2)) = ((parts.map fun p=>a.eval p.2).zipIdx 0).map fun p => (p.2,p.1):=by
    have:=range_zip (parts.map fun p => (p.1,a.eval p.2)) len 0 (by rw [List.map_map,← List.range_eq_range',← hp]; rfl)
    rw [List.map_map] at this
    exact this
  have hrun : (Instr.buildSlice t len (parts.map fun p => (p.1,a.eval p.2)).toArray).run P w = .ok (.slice (some ⟨w.heap.size,0,none⟩) len len) (w.alloc (.cells c e)):=by
    unfold Instr.buildSlice
    simp only [Sem.run_bind,run_underlying hu,Result.andThen_ok,run_sizeOf hi]
    rw [if_neg (by omega:¬ len*ti.size > 2 ^ 24)]
    by_cases h0:len*ti.size=0
    · rw [if_pos h0] at hzc ⊢
      subst hzc
      simp only [Sem.run_bind,Sem.run_pure,Result.andThen_ok]
      rw [hpe,h5]
      rfl
    · rw [if_neg h0] at hzc ⊢
      subst hzc
      simp only [Sem.run_bind,Sem.run_pure,Result.andThen_ok,zeroValue,typeInfo,run_program,hi,hz]
      rw [hpe,h5]
      rfl
  have g:Grew w (w.alloc (.cells c e)) (.cells c e (0,0)):=Grew.alloc _ _
  have hcsz:c.size=len*ti.size:=by rw [h6]; simp
  have hcell:∀ i,i < len→∀ j,j < ti.size → (c.getD (i*ti.size+j) undef).oneCell'=true∧Rep w (Mk β Fb h) β U (c.getD (i*ti.size+j) undef) ((cells (l.getD i .junk)).getD j .junk):=by
    intro i hi j hj
    have:=h7 i (by rw [List.length_map]; omega) j hj
    rw [Nat.zero_add] at this
    rw [this]
    exact (hcs i hi).2 j hj
  cases hb:allL (okE ti.size) l with
  | true =>
    rw [hb] at hd'
    cases hd'
    have hA:Adv β U h w β (Ad U N) h (w.alloc (.cells c e)):=Adv.beside g
    refine ⟨_,w.alloc (.cells c e),β,hrun,?_,Inv.beside I g,hA⟩
    rw [← hll]
    have hni:¬ Mk β Fb h w.heap.size:=by
      rintro (hf | ⟨r,hr,hr2⟩)
      · exact Nat.lt_irrefl _ (I.frm _ hf).1
      · have:=I.lt r hr; omega
    have hlt:∀ i,i < (l++[]).length→∀ j,j < ti.size→i*ti.size+j < c.size:=by
      intro i hi j hj
      rw [List.append_nil] at hi
      have : (i+1)*ti.size≤len*ti.size:=Nat.mul_le_mul_right _ (by omega)
      rw [Nat.add_mul,Nat.one_mul] at this
      omega
    refine Rep.sl ⟨w.heap.size,0,none⟩ w.heap.size 0 l.length ti.size l [] true (fun i j=>c.getD (i*ti.size+j) undef) (.inl rfl) (fun _=>⟨by rw [World.size_alloc]; omega,hni⟩) (fun e he=>?_) (by simp) (fun _=>rfl) (fun i hi j hj=>?_) (fun i hi j hj=>?_) (fun i hi j hj=>?_)
    · rw [List.append_nil] at he; exact (okF_inv (hok e he)).2
    · rw [Nat.zero_add]
      unfold World.cell?
      simp only [g.new]
      simp [Array.getD,hlt i hi j hj]
    · rw [List.append_nil] at hi; exact (hcell i (by omega) j hj).1
    · have hi0:=hi
      rw [List.append_nil] at hi ⊢
      have hcl:clo 20 (l.getD i .junk)=true:=by
        rw [allL_eq,List.all_eq_true] at hb
        have:l.getD i .junk∈l:=by rw [List.getD_eq_getElem?_getD,List.getElem?_eq_getElem hi]; exact List.getElem_mem _
        exact (and2 (show Bool.and (okF ti.size (l.getD i .junk)) (clo 20 (l.getD i .junk))=true from hb _ this)).2
      have hv0:=Rep.clo 20 (hvs i (by omega)) hcl
      obtain ⟨h8,h9⟩:=okF_inv (hel i (by omega))
      have h10 := (hv0.cells h8).2 j (by omega)
      have h11:=h7 i (by rw [List.length_map]; omega) j hj
      rw [Nat.zero_add] at h11
      rw [h11]
      exact h10.2.adv hA (Sub.no _) No (Sub.no _)
  | false =>
    rw [hb] at hd'
    have h1 := (ifR_inv hd').2
    cases h1
    rw [lenL_eq]
    have hR:=row_ok I hN (.inl rfl) g (k:=ti.size) (C:=len*ti.size) (l:=l) hcsz (by rw [hll]; exact Nat.le_refl _) (fun e he => (okF_inv (hok e he)).2) (fun i hi j hj=>hcell i (by omega) j hj)
      len len true hll.symm (Nat.le_refl _) (fun _=>rfl) (fun e=>by cases e) (Nat.le_refl _) hmx
    rw [hll]
    exact ⟨_,_,_,hrun,hR.1,hR.2.1,hR.2.2⟩

theorem build_ok {t:TypeId} {ti:TypeInfo} {fs:Array Field} {z:Value} {zs:List D} (hu:P.underlying t=some (.struct fs)) (hi:P.info? t=some ti) (hz:ti.zero=some z) (hzs:ofV z = .agg zs) (hfs:∀ f,f∈fs.toList → (P.info? f.type).isSome=true)
    {M:Nat→Prop} {a:Act} {env:Tr} {mm:Nat} (E:EnvOk w M β U a.tmps env) (hm:mm≤a.tmps.size) {parts:List (Nat×Operand)} {ps:List (Nat×Nat×Opd)} (hp:cParts mm (plcS P fs) parts=some ps) {l:List D} (hl:fillP env ps (some zs)=some l) :
    ∃ v,(Instr.build t (parts.map fun p => (p.1,a.eval p.2)).toArray).run P w = .ok v w∧Rep w M β U v (.agg l):=by
  have hpl:∃ places:Array (Nat×Nat),(fs.mapM (m:=Sem) fun f=>do pure (f.offset,← sizeOf f.type)).run P w = .ok places w∧∀ (i:Nat) (q:Nat×Nat),plcS P fs i=some q→places[i]? = some q:=by
    have hlist:∀ (l:List Field),(∀ f,f∈l → (P.info? f.type).isSome=true) → (l.mapM (m:=Sem) fun f=>do pure (f.offset,← sizeOf f.type)).run P w = .ok (l.map fun f => (f.offset,((P.info? f.type).getD default).size)) w:=by
      intro l
      induction l with
      | nil=>intro _; rfl
      | cons f l ih =>
        intro hf
        obtain ⟨j,hj⟩:=Option.isSome_iff_exists.1 (hf f (by simp))
        rw [List.mapM_cons]
        simp only [Sem.run_bind,run_sizeOf hj,Result.andThen_ok,Sem.run_pure,ih (fun g hg=>hf g (by simp [hg])),List.map_cons,hj,Option.getD_some]
    refine ⟨(fs.toList.map fun f => (f.offset,((P.info? f.type).getD default).size)).toArray,?_,fun i q h1=>?_⟩
    · rw [Array.mapM_eq_mapM_toList,Sem.run_map,hlist fs.toList hfs]
      rfl
    · unfold plcS at h1
      split at h1
      · rename_i f hf
        split at h1
        · rename_i j hj
          cases h1
          rw [List.getElem?_toArray,List.getElem?_map,Array.getElem?_toList,hf]
          simp [hj]
        · cases h1
      · cases h1
  obtain ⟨places,h1,h2⟩:=hpl
  have hzc:CellsOk w M β U z.cells zs:=by
    have hr:=ofV_rep w M β U z
    rw [hzs] at hr
    exact (hr.cells rfl)
  obtain ⟨c,h3,h4⟩:=fill_ok E hm (place := (places[·]?)) h2 parts ps z.cells zs l hp hzc hl
  refine ⟨.agg c,?_,.agg c l h4.1 (fun i hi => (h4.2 i hi).1) (fun i hi => (h4.2 i hi).2)⟩
  unfold Instr.build
  simp only [Sem.run_bind,zeroValue,typeInfo,run_program,Result.andThen_ok,hi,hz,Sem.run_pure,run_underlying hu,h1]
  rw [h3]
  rfl

theorem build_arr_ok {t e:TypeId} {n:Nat} {ti tj:TypeInfo} {z:Value} {zs:List D} (hu:P.underlying t=some (.array n e)) (hi:P.info? t=some ti) (hj:P.info? e=some tj) (hz:ti.zero=some z) (hzs:ofV z = .agg zs)
    {M:Nat→Prop} {a:Act} {env:Tr} {mm:Nat} (E:EnvOk w M β U a.tmps env) (hm:mm≤a.tmps.size) {parts:List (Nat×Operand)} {ps:List (Nat×Nat×Opd)} (hp:cParts mm (fun x=>some (x*tj.size,tj.size)) parts=some ps) {l:List D} (hl:fillP env ps (some zs)=some l) :
    ∃ v,(Instr.build t (parts.map fun p => (p.1,a.eval p.2)).toArray).run P w = .ok v w∧Rep w M β U v (.agg l):=by
  have hzc:CellsOk w M β U z.cells zs:=by
    have hr:=ofV_rep w M β U z
    rw [hzs] at hr
    exact (hr.cells rfl)
  obtain ⟨c,h3,h4⟩:=fill_ok E hm (place:=fun x=>some (x*tj.size,tj.size)) (fun _ _ h=>h) parts ps z.cells zs l hp hzc hl
  refine ⟨.agg c,?_,.agg c l h4.1 (fun i hi => (h4.2 i hi).1) (fun i hi => (h4.2 i hi).2)⟩
  unfold Instr.build
  simp only [Sem.run_bind,zeroValue,typeInfo,run_program,Result.andThen_ok,hi,hz,Sem.run_pure,run_underlying hu,run_sizeOf hj]
  rw [h3]
  rfl

end
end Go.Proofs.Ytpbpmpabndgeeaa
