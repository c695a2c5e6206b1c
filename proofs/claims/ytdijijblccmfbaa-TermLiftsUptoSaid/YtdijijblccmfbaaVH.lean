/- Wipe writes over the rows of a term that lies in the heap, and over nothing else. No condition but lengths. -/
import Derived.Test.YtdijijblccmfbaaVE
import Derived.Test.YtdijijblccmfbaaNCF1
set_option linter.unusedSimpArgs false
set_option linter.unusedVariables false
namespace Go.Proofs.Ytdijijblccmfbaa
open Go
open Nat (reduceAdd reduceLT reduceLeDiff reduceEqDiff reduceMul)

def WipeOk (t:Tm):Prop:=∀ (d:D) (rs:List Nat) (h:Hps) (n b:Nat),Tq h t d rs→rs.Nodup → (∀ r,r∈rs→r < b)→b≤n→Gd n h→∃ h',callFn (LX (cFk kL Try.prog)) n h [d] (cFk kL Try.prog 16) = .ok (.tup []) n h'∧Ws b rs h h'
set_option maxHeartbeats 4000000 in
theorem wKids {t:Tm} (ih:∀ k,k∈t.kids.el→WipeOk k) (hlen:t.kids.el.length≤9223372036854775807) {n b q:Nat} {h:Hps} {lv:D} {ds:List D} {rt:List Nat} (hq:getO h q = .row 6 ds) (HT:Tqs h t.kids.el ds rt) (hnd : (q::rt).Nodup) (hb:∀ r,r∈q::rt→r < b) (hbn:b≤n)
    {e:Tr} {n0:Nat} {G0:Hps} (H0:Hp n h n0 G0) (p0:n+1≤n0) (z0:getO G0 n = .row 6 [.agg [.int .i64 t.form,.int .i64 t.n,.bool t.hid,.str t.name,lv,.ms 6 q 0 t.kids.el.length false]]) (s1:get (po 1) e = .ptr n 0 0) (s2:get (po 2) e = .int .i64 0) :
    ∃ e2 n2 G h1,LX (cFk kL Try.prog) (.loop l16_0) e n0 G0 = .ok (.exit 0) e2 n2 G∧Hp n h1 n2 G∧n+1≤n2∧Ws b (q::rt) h h1∧getO G n = .row 6 [.agg [.int .i64 t.form,.int .i64 t.n,.bool t.hid,.str t.name,lv,.ms 6 q 0 t.kids.el.length false]]∧get (po 1) e2 = .ptr n 0 0:=by
  generalize hr:LX (cFk kL Try.prog) (.loop l16_0) e n0 G0=R
  obtain ⟨x,e2,n2,G,rfl,rfl,p2,h1,H2,W2,z2,s12⟩:=loop_up hr t.kids.el.length
    (fun i e n' G=>n+1≤n'∧getO G n = .row 6 [.agg [.int .i64 t.form,.int .i64 t.n,.bool t.hid,.str t.name,lv,.ms 6 q 0 t.kids.el.length false]]∧get (po 1) e = .ptr n 0 0∧get (po 2) e = .int .i64 (i:Nat) ∧
      ∃ h1 ra rb es,Hp n h1 n' G∧Ws b (q::ra) h h1∧rt=ra++rb∧Tqs h (t.kids.el.drop i) (ds.drop i) rb∧getO h1 q = .row 6 es∧es.length=t.kids.el.length∧es.drop i=ds.drop i∧∀ x,x∈es→∀ k,b≤k→low k x)
    (fun x e n' G=>x = .exit 0∧n+1≤n'∧∃ h1,Hp n h1 n' G∧Ws b (q::rt) h h1∧getO G n = .row 6 [.agg [.int .i64 t.form,.int .i64 t.n,.bool t.hid,.str t.name,lv,.ms 6 q 0 t.kids.el.length false]]∧get (po 1) e = .ptr n 0 0)
    (by
      rintro e n' G ⟨p1,z,s1,s2,h1,ra,rb,es,H,W,er,TT,hg,hl,hd,hlow⟩
      unfold l16_0
      simp (disch:=first|assumption|omega|(simp (disch:=first|assumption|omega) only [sB,reduceAdd,reduceLT,reduceLeDiff,reduceEqDiff,reduceMul,↓reduceIte];done)|fail) only [sA,↓reduceIte,reduceLT,reduceEqDiff,reduceAdd,reduceLeDiff,s1,s2,z]
      refine ⟨_,_,_,_,rfl,by simp,rfl,by omega,h1,H.mono (by omega),W.mono (Nat.le_refl _) (fun r hr=>?_),z,by simp +decide only [sG,s1]⟩
      rcases List.mem_cons.1 hr with rfl | hr
      · simp
      · rw [er]; simp [hr])
    (by
      rintro i e n' G hi ⟨p1,z,s1,s2,h1,ra,rb,es,H,W,er,TT,hg,hl,hd,hlow⟩
      rw [List.drop_eq_getElem_cons hi] at TT
      obtain ⟨d,dt,r1,r2,ed,rfl,T1,T2⟩:=Tqs_cons.1 TT
      have hin:∀ r,r∈r1→r∈rt∧r ∉ q::ra:=fun r hr=>by
        have h2:r∈rt:=by rw [er]; simp [hr]
        refine ⟨h2,fun h3=>?_⟩
        obtain ⟨a1,a2⟩:=List.nodup_cons.1 hnd
        rcases List.mem_cons.1 h3 with rfl | h3
        · exact a1 h2
        · rw [er] at a2
          exact (List.nodup_append.1 a2).2.2 r h3 r (by simp [hr]) rfl
      have hqb:=hb q (by simp)
      have hr1:∀ r,r∈r1→r < b:=fun r hr=>hb r (by simp [(hin r hr).1])
      have hqr:q ∉ r1:=fun hh => (List.nodup_cons.1 hnd).1 (hin q hh).1
      have TG:Tq G t.kids.el[i] d r1:=Tq.congr _ _ _ T1 (fun r hr=>by
        have:=hr1 r hr
        rw [H.get (by omega),W.get (hin r hr).2])
      obtain ⟨G1,e1,W1⟩:=ih _ (List.getElem_mem hi) d r1 G (n'+11) b TG (by
        have a2 := (List.nodup_cons.1 hnd).2
        rw [er] at a2
        exact (List.nodup_append.1 (List.nodup_append.1 a2).2.1).1) hr1 (by have:=H.le; omega) (fun k hk=>H.good k (by omega))
      obtain ⟨h2,H2,W2⟩:=W1.low (n0:=n) (m:=n') (fun r hr=>by have:=hr1 r hr; omega) hbn (by omega) H
      have zG:getO G q = .row 6 es:=by rw [H.get (by omega)]; exact hg
      have zG1:getO G1 q = .row 6 es:=by rw [W1.get hqr]; exact zG
      have z1:getO G1 n = .row 6 [.agg [.int .i64 t.form,.int .i64 t.n,.bool t.hid,.str t.name,lv,.ms 6 q 0 t.kids.el.length false]]:=by rw [W1.get (fun hh=>by have:=hr1 n hh; omega)]; exact z
      have hei:es[i]? = some d:=by
        have h0 : (es.drop i)[0]? = some d:=by rw [hd,ed]; rfl
        rw [List.getElem?_drop] at h0
        simpa using h0
      obtain ⟨lv',kd',rfl,_,_⟩:=T1.form
      have hgd:es.getD i .junk = .agg [.int .i64 t.kids.el[i].form,.int .i64 t.kids.el[i].n,.bool t.kids.el[i].hid,.str t.kids.el[i].name,lv',kd']:=by rw [List.getD_eq_getElem?_getD,hei]; rfl
      have hst:∀ m,storeR true 6 q i 0 (.agg [.int .i64 (-1),.int .i64 0,.bool false,.str [],.nils,.nils]) m G1 (.row 6 es) = .ok .junk m (setO G1 q (.row 6 (es.set i (.agg [.int .i64 (-1),.int .i64 0,.bool false,.str [],.nils,.nils])))):=fun m=>storeR_all (k:=6) (ys:=[.int .i64 t.kids.el[i].form,.int .i64 t.kids.el[i].n,.bool t.kids.el[i].hid,.str t.kids.el[i].name,lv',kd']) hgd (by omega) rfl rfl
      have hlow2:∀ x,x∈es.set i (.agg [.int .i64 (-1),.int .i64 0,.bool false,.str [],.nils,.nils])→∀ k,b≤k→low k x:=fun x hx k hk=>by
        rcases List.mem_or_eq_of_mem_set hx with hx | rfl
        · exact hlow x hx k hk
        · exact low_flat rfl
      have hrow:∀ k,b≤k→lowO k (.row 6 (es.set i (.agg [.int .i64 (-1),.int .i64 0,.bool false,.str [],.nils,.nils]))):=fun k hk=>lowO_row (fun x hx=>hlow2 x hx k hk)
      unfold l16_0
      simp (disch:=first|assumption|omega|(simp (disch:=first|assumption|omega) only [sB,reduceAdd,reduceLT,reduceLeDiff,reduceEqDiff,reduceMul,↓reduceIte];done)|fail) only [sA,↓reduceIte,reduceLT,reduceEqDiff,reduceAdd,reduceLeDiff,s1,s2,z,iaddr_ms,zG,hgd,e1,z1,zG1,hst]
      have e3:ds.drop (i+1)=dt:=by rw [← List.tail_drop,ed]; rfl
      have zh2:getO h2 q = .row 6 es:=by rw [W2.get hqr]; exact hg
      refine ⟨_,_,_,_,rfl,.inl ⟨rfl,by omega,by rw [getO_ne (by omega)]; exact z1,by simp +decide only [sG,s1],by simp +decide only [sG],_,ra++r1,r2,_,(H2.setLow (by omega) (hrow n hbn) (fun k hk=>hrow k (by omega))).mono (by omega),(((W.mono (Nat.le_refl _) (fun r hr=>?_)).trans (W2.mono (Nat.le_refl _) (fun r hr=>?_))).step (by simp) zh2 hrow),by rw [er,List.append_assoc],by rw [e3]; exact T2,getO_set1 zh2,by rw [List.length_set]; exact hl,?_,hlow2⟩⟩
      · rcases List.mem_cons.1 hr with rfl | hr
        · simp
        · simp [hr]
      · simp [hr]
      · rw [List.drop_set_of_lt (by omega),← List.tail_drop,hd,List.tail_drop])
    ⟨by omega,z0,s1,s2,h,[],rt,ds,H0,.refl,rfl,HT,hq,HT.len,rfl,fun x hx k hk=>HT.low (fun r hr=>by have:=hb r (by simp [hr]); omega) x hx⟩
  exact ⟨e2,n2,G,h1,rfl,H2,p2,W2,z2,s12⟩
set_option maxHeartbeats 4000000 in
theorem wLevs {t:Tm} (hlen:t.levels.el.length≤9223372036854775807) {n b q:Nat} {h:Hps} {kd:D} (hq:getO h q = .row 2 (t.levels.el.map encL)) (hqb:q < b) (hbn:b≤n)
    {e:Tr} {n0:Nat} {G0:Hps} (H0:Hp n h n0 G0) (p0:n+1≤n0) (z0:getO G0 n = .row 6 [.agg [.int .i64 t.form,.int .i64 t.n,.bool t.hid,.str t.name,.ms 2 q 0 t.levels.el.length false,kd]]) (s1:get (po 1) e = .ptr n 0 0) (s3:get (po 3) e = .int .i64 0) :
    ∃ e2 n2 G h1,LX (cFk kL Try.prog) (.loop l16_1) e n0 G0 = .ok (.exit 2) e2 n2 G∧Hp n h1 n2 G∧Ws b [q] h h1:=by
  generalize hr:LX (cFk kL Try.prog) (.loop l16_1) e n0 G0=R
  obtain ⟨x,e2,n2,G,rfl,rfl,h1,H2,W2⟩:=loop_up hr t.levels.el.length
    (fun i e n' G=>n+1≤n'∧getO G n = .row 6 [.agg [.int .i64 t.form,.int .i64 t.n,.bool t.hid,.str t.name,.ms 2 q 0 t.levels.el.length false,kd]]∧get (po 1) e = .ptr n 0 0∧get (po 3) e = .int .i64 (i:Nat) ∧
      ∃ h1,∃ xs:List SLev,Hp n h1 n' G∧Ws b [q] h h1∧getO h1 q = .row 2 (xs.map encL)∧xs.length=t.levels.el.length)
    (fun x e n' G=>x = .exit 2∧∃ h1,Hp n h1 n' G∧Ws b [q] h h1)
    (by
      rintro e n' G ⟨p1,z,s1,s3,h1,xs,H,W,hg,hl⟩
      unfold l16_1
      simp (disch:=first|assumption|omega|(simp (disch:=first|assumption|omega) only [sB,reduceAdd,reduceLT,reduceLeDiff,reduceEqDiff,reduceMul,↓reduceIte];done)|fail) only [sA,↓reduceIte,reduceLT,reduceEqDiff,reduceAdd,reduceLeDiff,s1,s3,z]
      exact ⟨_,_,_,_,rfl,by simp,rfl,h1,H.mono (by omega),W⟩)
    (by
      rintro i e n' G hi ⟨p1,z,s1,s3,h1,xs,H,W,hg,hl⟩
      have zG:getO G q = .row 2 (xs.map encL):=by rw [H.get (by omega)]; exact hg
      have hgd : (xs.map encL).getD i .junk=encL xs[i]:=by rw [List.getD_eq_getElem?_getD,List.getElem?_map,List.getElem?_eq_getElem (by omega)]; rfl
      have hst:∀ m,storeR true 2 q i 0 (.agg [.int .i64 (-1),.nils]) m G (.row 2 (xs.map encL)) = .ok .junk m (setO G q (.row 2 ((xs.set i ⟨-1,Sl.app []⟩).map encL))):=fun m=>by
        rw [storeR_all (k:=2) (xs:=[.int .i64 (-1),.nils]) (ys:=[.int .i64 xs[i].n,slD 2 encV xs[i].vs]) hgd (by rw [List.length_map]; omega) rfl rfl,List.map_set]
        rfl
      have hrow:∀ k,b≤k→lowO k (.row 2 ((xs.set i ⟨-1,Sl.app []⟩).map encL)):=fun k _=>lowO_map (lowL k)
      unfold l16_1
      simp (disch:=first|assumption|omega|(simp (disch:=first|assumption|omega) only [sB,reduceAdd,reduceLT,reduceLeDiff,reduceEqDiff,reduceMul,↓reduceIte];done)|fail) only [sA,↓reduceIte,reduceLT,reduceEqDiff,reduceAdd,reduceLeDiff,s1,s3,z,iaddr_ms,zG,hst]
      exact ⟨_,_,_,_,rfl,.inl ⟨rfl,by omega,by rw [getO_ne (by omega)]; exact z,by simp +decide only [sG,s1],by simp +decide only [sG],_,_,(H.setLow (by omega) (hrow n hbn) (fun k hk=>hrow k (by have:=H.le; omega))).mono (by omega),W.step (by simp) hg hrow,getO_set1 hg,by rw [List.length_set]; exact hl⟩⟩)
    ⟨by omega,z0,s1,s3,h,t.levels.el,H0,.refl,hq,rfl⟩
  exact ⟨e2,n2,G,h1,rfl,H2,W2⟩
set_option maxHeartbeats 4000000 in
theorem wWipe:∀ t:Tm,saneT t.abs=true→WipeOk t:=by
  refine Tm.ind ?_
  intro t ih hs d rs h n b T hnd hb hbn hg
  obtain ⟨⟨hl1,hl2⟩,hks⟩:=sane_tm hs
  have hgn:=hg n (Nat.le_refl _)
  obtain ⟨_,lv,kd,rl,rk,rfl,rfl,HL,HK⟩:=Tq_eq.1 T
  have hbox:∀ k,n≤k→lowO k (.row 6 [.agg [.int .i64 t.form,.int .i64 t.n,.bool t.hid,.str t.name,lv,kd]]):=fun k hk=>lowO_one (T.low (fun q hq=>by have:=hb q hq; omega))
  have H1 := (Hp.start hg).cons (r:=n) (m:=n+1) (o := .row 6 [.agg [.int .i64 t.form,.int .i64 t.n,.bool t.hid,.str t.name,lv,kd]]) (Nat.le_refl _) (by omega) (fun k hk=>hbox k (by omega))
  obtain ⟨n1,n2,n3⟩:=List.nodup_append.1 hnd
  rw [f16_eq]; unfold c16; rw [callFn_eq (by rfl)]
  simp (disch:=first|assumption|omega|(simp (disch:=first|assumption|omega) only [sB,reduceAdd,reduceLT,reduceLeDiff,reduceEqDiff,reduceMul,↓reduceIte];done)|fail) only [sA,↓reduceIte,reduceLT,reduceEqDiff,reduceAdd,reduceLeDiff]
  have S1:∀ e R,LX (cFk kL Try.prog) (.loop l16_0) e (n+2) ((n,.row 6 [.agg [.int .i64 t.form,.int .i64 t.n,.bool t.hid,.str t.name,lv,kd]])::h)=R→get (po 1) e = .ptr n 0 0→get (po 2) e = .int .i64 0→∃ e2 n2 G h1,R = .ok (.exit 0) e2 n2 G∧Hp n h1 n2 G∧n+1≤n2∧Ws b rk h h1∧getO G n = .row 6 [.agg [.int .i64 t.form,.int .i64 t.n,.bool t.hid,.str t.name,lv,kd]]∧get (po 1) e2 = .ptr n 0 0:=by
    intro e R hR s1 s2
    rw [← hR]
    clear hR
    rcases HK with ⟨hk,rfl,rfl⟩ | ⟨q,ds,rt,hk,rfl,rfl,hq,HT⟩
    · rw [LX_loop]
      unfold l16_0
      simp (disch:=first|assumption|omega|(simp (disch:=first|assumption|omega) only [sB,reduceAdd,reduceLT,reduceLeDiff,reduceEqDiff,reduceMul,↓reduceIte];done)|fail) only [sA,↓reduceIte,reduceLT,reduceEqDiff,reduceAdd,reduceLeDiff,s1,s2]
      exact ⟨_,_,_,_,rfl,H1.mono (by omega),by omega,.refl,getO_hd,by simp +decide only [sG,s1]⟩
    · exact wKids (fun k hk=>ih k hk (hks k hk)) hl2 hq HT n2 (fun r hr=>hb r (List.mem_append_right _ hr)) hbn (H1.mono (by omega)) (by omega) getO_hd s1 s2
  generalize hR:LX (cFk kL Try.prog) (.loop l16_0) _ _ _=R
  obtain ⟨e2,m2,G,h1,rfl,H2,p2,W2,z2,s12⟩:=S1 _ _ hR (by simp +decide only [sG]) (by simp +decide only [sG])
  clear hR S1
  simp (disch:=first|assumption|omega|(simp (disch:=first|assumption|omega) only [sB,reduceAdd,reduceLT,reduceLeDiff,reduceEqDiff,reduceMul,↓reduceIte];done)|fail) only [sA,↓reduceIte,reduceLT,reduceEqDiff,reduceAdd,reduceLeDiff,s12]
  generalize hR:LX (cFk kL Try.prog) (.loop l16_1) _ _ _=R
  have S2:∀ e n0 R,LX (cFk kL Try.prog) (.loop l16_1) e n0 G=R→get (po 1) e = .ptr n 0 0→get (po 3) e = .int .i64 0→Hp n h1 n0 G→n+1≤n0→∃ e2 n2 G' h2,R = .ok (.exit 2) e2 n2 G'∧Hp n h2 n2 G'∧Ws b rl h1 h2:=by
    intro e n0 R hR s1 s3 H p
    rw [← hR]
    clear hR
    rcases HL with ⟨hk,rfl,rfl⟩ | ⟨q,hk,rfl,rfl,hq⟩
    · rw [LX_loop]
      unfold l16_1
      simp (disch:=first|assumption|omega|(simp (disch:=first|assumption|omega) only [sB,reduceAdd,reduceLT,reduceLeDiff,reduceEqDiff,reduceMul,↓reduceIte];done)|fail) only [sA,↓reduceIte,reduceLT,reduceEqDiff,reduceAdd,reduceLeDiff,s1,s3,z2]
      exact ⟨_,_,_,_,rfl,H.mono (by omega),.refl⟩
    · exact wLevs hl1 (by rw [W2.get (fun hh=>n3 q (by simp) q hh rfl)]; exact hq) (hb q (by simp)) hbn H p z2 s1 s3
  obtain ⟨e3,m3,G3,h3,rfl,H3,W3⟩:=S2 _ _ _ hR (by simp +decide only [sG,s12]) (by simp +decide only [sG]) (H2.mono (by omega)) (by omega)
  clear hR S2
  refine ⟨h3,?_,(W2.mono (Nat.le_refl _) (fun r hr=>List.mem_append_right _ hr)).trans (W3.mono (Nat.le_refl _) (fun r hr=>List.mem_append_left _ hr))⟩
  simp (disch:=first|assumption|omega|(simp (disch:=first|assumption|omega) only [sB,reduceAdd,reduceLT,reduceLeDiff,reduceEqDiff,reduceMul,↓reduceIte];done)|fail) only [sA,↓reduceIte,reduceLT,reduceEqDiff,reduceAdd,reduceLeDiff]
  exact finish_flat rfl H3
end Go.Proofs.Ytdijijblccmfbaa
