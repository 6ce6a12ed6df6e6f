/- The floor: Next. -/
import Derived.Test.YtbibeionenjmfaaGreatDoorJParse
import Derived.Test.YtbibeionenjmfaaGreatDoorFlCount
set_option linter.unusedSimpArgs false
set_option linter.unusedVariables false
namespace Go.Proofs.YtbibeionenjmfaaGreatDoor
open Go.RowKit
theorem get_modify {α:Type} (l:List α) (f:α→α) (i j:Nat):(l.modify i f)[j]?=if i=j then(l[j]?).map f else l[j]?:=by
 rw [List.getElem?_modify]
 split <;> cases l[j]? <;> simp_all
theorem P3 (F:Ad) (t u:Eg) (f:As→As):ofM (setOf F t f) u=if u=t then(ofM F u).map f else ofM F u:=by
 obtain⟨n,fo,i⟩:=t
 obtain⟨m,go,j⟩:=u
 unfold ofM setOf
 simp only [get_modify]
 by_cases hn:n=m
 ·subst hn
  simp only [if_true]
  cases ho:F.Aj[n]? with
  | none=> simp
  | some o=>
    simp only [Option.map_some,Option.bind_some]
    unfold A1 Er
    by_cases hi:i=j
    ·subst hi
     cases fo <;> cases go <;> simp [get_modify]
    ·have hj:¬ j=i:=fun e=> hi e.symm
     cases fo <;> cases go <;> simp [get_modify,hi,hj]
 ·have hm:¬ m=n:=fun e=> hn e.symm
  simp [hn,hm]
theorem R9 (F:Ad) (w k:Nat) (a:F3) (t:Eg):ofM (Aq F w k a) t=ofM F t:=rfl
def Aw (F:Ad) (w k:Nat):Option F3:=(F.Ap[w]?).bind (·[k]?)
theorem Da (F:Ad) (w k:Nat) (a:F3) (w' k':Nat):Aw (Aq F w k a) w' k'=if w'=w∧k'=k then(Aw F w k).map fun _=> a else Aw F w' k':=by
 unfold Aw Aq
 simp only [get_modify]
 by_cases hw:w=w'
 ·subst hw
  cases hr:F.Ap[w]? with
  | none=> simp
  | some row=>
    simp only [if_true,Option.map_some,Option.bind_some,List.getElem?_set,true_and]
    by_cases hk:k=k'
    ·subst hk
     simp only [if_true]
     by_cases hl:k < row.length
     ·rw [if_pos hl,List.getElem?_eq_getElem hl];rfl
     ·rw [if_neg hl,List.getElem?_eq_none (by omega)];rfl
    ·rw [if_neg hk,if_neg (fun e=> hk e.symm)]
 ·have hw2:¬ w'=w:=fun e=> hw e.symm
  simp [hw,hw2]
def G7 (o:Bg) (fold:Bool) (i:Nat):Nat:=if fold=true then(U4 o.rs o.fold o.slices o.lines i).length else min o.size (o.lines.length - i * o.size)
def S3 (o:Bg) (fold:Bool):Nat:=if fold=true then o.slices else(o.lines.length+o.size - 1) / o.size
structure Dl (nq:Nat) (o:Bg):Prop where
 queue:o.queue < nq
 ok:Dp o.rs o.fold o.slices=0
 lines:o.lines.length≤60
 short:∀ l∈o.lines,l.size≤120
 size:1≤o.size∧o.size≤60
 len:∀ fold,(Er o fold).length=S3 o fold
 outs:o.out.length=o.slices
structure Lk (o:Bg) (fold:Bool) (i:Nat) (p:As):Prop where
 many:p.many=G7 o fold i
 st:p.st=0∨p.st=1∨p.st=2
 saved: -1≤p.saved∧p.saved≤p.many
structure Fz (F:Ad):Prop where
 qs:Fx F.Al=0
 ws:1≤F.Ap.length∧F.Ap.length≤4
 rows:∃ n,(1≤n∧n≤3)∧∀ row∈F.Ap,row.length=n
 jl:F.Aj.length≤6
 Hj:∀ (n:Nat) o,F.Aj[n]?=some o→Dl F.Al.length o
 part:∀ (n:Nat) o fold i p,F.Aj[n]?=some o→(Er o fold)[i]?=some p→Lk o fold i p
structure Dw (F:Ad):Prop extends Fz F where
 Ys:∀ w k a,Aw F w k=some a→a.on=true→∃ p,ofM F a.t=some p∧a.at_≤p.many
 run:∀ t p,ofM F t=some p→p.st=1→∃ w k a,Aw F w k=some a∧a.on=true∧a.t=t
 off:∀ w k a,Aw F w k=some a→a.on=false→a=D4
theorem Iy {F:Ad} {t:Eg} {p:As} (h:ofM F t=some p):∃ o,F.Aj[t.1]?=some o∧(Er o t.2.1)[t.2.2]?=some p:=by
 unfold ofM at h
 cases ho:F.Aj[t.1]? with
 | none=> rw [ho] at h;cases h
 | some o=> rw [ho] at h;exact⟨o,rfl,h⟩
theorem Ajd {F:Ad} {a:F3}:a∈F.Ap.flatten↔∃ w k,Aw F w k=some a:=by
 constructor
 ·intro h
  obtain⟨row,hr,ha⟩:=List.mem_flatten.1 h
  obtain⟨w,hw⟩:=List.mem_iff_getElem?.1 hr
  obtain⟨k,hk⟩:=List.mem_iff_getElem?.1 ha
  exact⟨w,k,by unfold Aw;rw [hw];exact hk⟩
 ·rintro⟨w,k,h⟩
  unfold Aw at h
  cases hw:F.Ap[w]? with
  | none=> rw [hw] at h;cases h
  | some row=>
    rw [hw] at h
    exact List.mem_flatten.2 ⟨row,List.mem_of_getElem? hw,List.mem_of_getElem? h⟩
theorem Og (o:Bg) (fo go:Bool) (i:Nat) (f:As→As):Er (A1 o fo i f) go=if fo=go then(Er o go).modify i f else Er o go:=by
 unfold A1 Er
 cases fo <;> cases go <;> simp
theorem Mk (o:Bg) (fo:Bool) (i:Nat) (f:As→As):(A1 o fo i f).queue=o.queue∧(A1 o fo i f).rs=o.rs∧(A1 o fo i f).fold=o.fold∧(A1 o fo i f).slices=o.slices∧(A1 o fo i f).early=o.early∧(A1 o fo i f).lines=o.lines∧(A1 o fo i f).size=o.size∧(A1 o fo i f).out=o.out:=by
 unfold A1
 cases fo <;> simp
theorem Dl.set {nq:Nat} {o:Bg} (h:Dl nq o) (fo:Bool) (i:Nat) (f:As→As):Dl nq (A1 o fo i f):=by
 obtain⟨e1,e2,e3,e4,e5,e6,e7,e8⟩:=Mk o fo i f
 refine⟨by rw [e1];exact h.queue,by rw [e2,e3,e4];exact h.ok,by rw [e6];exact h.lines,by rw [e6];exact h.short,by rw [e7];exact h.size,fun go=> ?_,by rw [e8,e4];exact h.outs⟩
 have:S3 (A1 o fo i f) go=S3 o go:=by unfold S3;rw [e4,e6,e7]
 rw [this,←h.len go,Og]
 split <;> simp
theorem Lk.set {o:Bg} {go:Bool} {j:Nat} {p:As} (fo:Bool) (i:Nat) (f:As→As) (h:Lk o go j p):Lk (A1 o fo i f) go j p:=by
 obtain⟨e1,e2,e3,e4,e5,e6,e7,e8⟩:=Mk o fo i f
 have:G7 (A1 o fo i f) go j=G7 o go j:=by unfold G7;rw [e2,e3,e4,e6,e7]
 exact⟨by rw [this];exact h.many,h.st,h.saved⟩
theorem Fz.setOf {F:Ad} (h:Fz F) (t:Eg) (f:As→As) (hf:∀ o p,F.Aj[t.1]?=some o→(Er o t.2.1)[t.2.2]?=some p→Lk o t.2.1 t.2.2 p→Lk o t.2.1 t.2.2 (f p)):Fz (setOf F t f):=by
 have hget:∀ (n:Nat) o',(Go.Proofs.YtbibeionenjmfaaGreatDoor.setOf F t f).Aj[n]?=some o'→∃ o,F.Aj[n]?=some o∧o'=if t.1=n then A1 o t.2.1 t.2.2 f else o:=by
  intro n o' ho
  have e:(Go.Proofs.YtbibeionenjmfaaGreatDoor.setOf F t f).Aj[n]?=if t.1=n then(F.Aj[n]?).map (fun o=> A1 o t.2.1 t.2.2 f) else F.Aj[n]?:=get_modify _ _ _ _
  rw [e] at ho
  by_cases hn:t.1=n
  ·rw [if_pos hn] at ho
   obtain⟨o,h1,h2⟩:=Option.map_eq_some_iff.1 ho
   exact⟨o,h1,by rw [if_pos hn];exact h2.symm⟩
  ·rw [if_neg hn] at ho
   exact⟨o',ho,by rw [if_neg hn]⟩
 refine⟨h.qs,h.ws,h.rows,by show(F.Aj.modify _ _).length≤6;rw [List.length_modify];exact h.jl,fun n o' ho=> ?_,fun n o' go j p ho hp=> ?_⟩
 ·obtain⟨o,h1,rfl⟩:=hget n o' ho
  split
  ·exact(h.Hj n o h1).set _ _ _
  ·exact h.Hj n o h1
 ·obtain⟨o,h1,rfl⟩:=hget n o' ho
  by_cases hn:t.1=n
  ·rw [if_pos hn] at hp ⊢
   subst hn
   rw [Og] at hp
   by_cases hg:t.2.1=go
   ·rw [if_pos hg,get_modify] at hp
    subst hg
    by_cases hi:t.2.2=j
    ·rw [if_pos hi] at hp
     subst hi
     obtain⟨p0,h2,rfl⟩:=Option.map_eq_some_iff.1 hp
     exact(hf o p0 h1 h2 (h.part _ o _ _ p0 h1 h2)).set _ _ _
    ·rw [if_neg hi] at hp
     exact(h.part _ o _ _ p h1 hp).set _ _ _
   ·rw [if_neg hg] at hp
    exact(h.part _ o _ _ p h1 hp).set _ _ _
  ·rw [if_neg hn] at hp ⊢
   exact h.part n o go j p h1 hp
theorem Fz.Aq {F:Ad} (h:Fz F) (w k:Nat) (a:F3):Fz (Aq F w k a):=by
 refine⟨h.qs,by show 1≤(F.Ap.modify _ _).length∧(F.Ap.modify _ _).length≤4;rw [List.length_modify];exact h.ws,?_,h.jl,h.Hj,h.part⟩
 obtain⟨n,hn,hr⟩:=h.rows
 refine⟨n,hn,fun row hrow=> ?_⟩
 obtain⟨i,hi⟩:=List.mem_iff_getElem?.1 hrow
 have e:(Go.Proofs.YtbibeionenjmfaaGreatDoor.Aq F w k a).Ap[i]?=if w=i then(F.Ap[i]?).map (fun row=> row.set k a) else F.Ap[i]?:=get_modify _ _ _ _
 rw [e] at hi
 split at hi
 ·obtain⟨r,h1,rfl⟩:=Option.map_eq_some_iff.1 hi
  rw [List.length_set]
  exact hr r (List.mem_of_getElem? h1)
 ·exact hr row (List.mem_of_getElem? hi)
theorem Fz.ok {F:Ad} (h:Fz F) {t:Eg} {p:As} (hp:ofM F t=some p):∃ o,F.Aj[t.1]?=some o∧Lk o t.2.1 t.2.2 p:=by
 obtain⟨o,h1,h2⟩:=Iy hp
 exact⟨o,h1,h.part _ o _ _ p h1 h2⟩
theorem Dw.begin {F:Ad} (h:Dw F) {w k:Nat} {b:F3} (hs:Aw F w k=some b) (hb:b.on=false) {t:Eg} {p:As} (hp:ofM F t=some p):Dw (Br F w k t):=by
 have hat:(((ofM F t).map fun p=> p.saved.toNat).getD 0)=p.saved.toNat:=by rw [hp];rfl
 have hsl:∀ w' k',Aw (Br F w k t) w' k'=if w'=w∧k'=k then some ⟨true,t,p.saved.toNat⟩ else Aw F w' k':=fun w' k'=> by
  unfold Br
  rw [Da,hat]
  split
  ·have:Aw (Go.Proofs.YtbibeionenjmfaaGreatDoor.setOf F t fun p=> {p with st:=1}) w k=Aw F w k:=rfl
   rw [this,hs];rfl
  ·rfl
 have hof:∀ u,ofM (Br F w k t) u=if u=t then(ofM F u).map (fun p=> {p with st:=1}) else ofM F u:=fun u=> by
  unfold Br
  rw [R9,P3]
 obtain⟨o,ho,hok⟩:=h.toFz.ok hp
 refine⟨(h.toFz.setOf t (fun p=> {p with st:=1}) fun o p _ _ hq=> ⟨hq.many, .inr (.inl rfl),hq.saved⟩).Aq w k _,fun w' k' a ha hon=> ?_,fun u q hq h1=> ?_,fun w' k' a ha hoff=> ?_⟩
 ·rw [hsl] at ha
  split at ha
  ·cases ha
   refine⟨{p with st:=1},by rw [hof,if_pos rfl,hp];rfl,?_⟩
   have:=hok.saved
   show p.saved.toNat≤p.many
   omega
  ·obtain⟨q,h1,h2⟩:=h.Ys w' k' a ha hon
   rw [hof]
   split
   ·rw [h1];exact⟨_,rfl,h2⟩
   ·exact⟨q,h1,h2⟩
 ·rw [hof] at hq
  split at hq
  ·rename_i e
   exact⟨w,k,_,by rw [hsl,if_pos ⟨rfl,rfl⟩],rfl,e.symm⟩
  ·obtain⟨w',k',a,h2,h3,h4⟩:=h.run u q hq h1
   refine⟨w',k',a,?_,h3,h4⟩
   rw [hsl,if_neg]
   ·exact h2
   ·rintro⟨rfl,rfl⟩
    rw [hs] at h2
    cases h2
    rw [hb] at h3
    cases h3
 ·rw [hsl] at ha
  split at ha
  ·cases ha;cases hoff
  ·exact h.off w' k' a ha hoff
theorem Dw.Cq {F:Ad} (h:Dw F) (w k:Nat) (many:Int):Dw (Cq F w k many):=by
 unfold Go.Proofs.YtbibeionenjmfaaGreatDoor.Cq
 cases hs:(F.Ap[w]?).bind (·[k]?) with
 | none=> exact h
 | some a=>
   dsimp only
   split
   ·exact h
   rename_i hon0
   have hon:a.on=true:=by simpa using hon0
   obtain⟨p,hp,hle⟩:=h.Ys w k a hs hon
   rw [hp]
   dsimp only
   obtain⟨n,hn⟩:∃ n,(if 0 < many then a.at_+min many.toNat (p.many - a.at_) else a.at_)=n:=⟨_,rfl⟩
   have hnl:n≤p.many:=by rw [←hn];split <;> omega
   rw [hn]
   have hsl:∀ x w' k',Aw (Aq F w k x) w' k'=if w'=w∧k'=k then some x else Aw F w' k':=fun x w' k'=> by
    rw [Da,show Aw F w k=some a from hs];rfl
   split
   ·refine⟨h.toFz.Aq _ _ _,fun w' k' b hb hbo=> ?_,fun t q hq h1=> ?_,fun w' k' b hb hbo=> ?_⟩
    ·rw [hsl] at hb
     split at hb
     ·cases hb;exact⟨p,hp,hnl⟩
     ·exact h.Ys w' k' b hb hbo
    ·obtain⟨w',k',b,h2,h3,h4⟩:=h.run t q hq h1
     by_cases e:w'=w∧k'=k
     ·obtain⟨rfl,rfl⟩:=e
      have h5:Aw F w' k'=some a:=hs
      rw [h5] at h2
      cases h2
      exact⟨w',k',{a with at_:=n},by rw [hsl,if_pos ⟨rfl,rfl⟩],hon,h4⟩
     ·exact⟨w',k',b,by rw [hsl,if_neg e];exact h2,h3,h4⟩
    ·rw [hsl] at hb
     split at hb
     ·cases hb;rw [show({a with at_:=n}:F3).on=a.on from rfl,hon] at hbo;cases hbo
     ·exact h.off w' k' b hb hbo
   have hatt:∀ w' k' b,Aw (Aq F w k D4) w' k'=some b→b.on=true→∃ p,ofM F b.t=some p∧b.at_≤p.many:=fun w' k' b hb hbo=> by
    rw [hsl] at hb
    split at hb
    ·cases hb;cases hbo
    ·exact h.Ys w' k' b hb hbo
   have hoff:∀ w' k' b,Aw (Aq F w k D4) w' k'=some b→b.on=false→b=D4:=fun w' k' b hb hbo=> by
    rw [hsl] at hb
    split at hb
    ·cases hb;rfl
    ·exact h.off w' k' b hb hbo
   have hrun:∀ t q,ofM F t=some q→q.st=1→t≠a.t→∃ w' k' b,Aw (Aq F w k D4) w' k'=some b∧b.on=true∧b.t=t:=fun t q hq h1 hne=> by
    obtain⟨w',k',b,h2,h3,h4⟩:=h.run t q hq h1
    refine⟨w',k',b,?_,h3,h4⟩
    rw [hsl,if_neg]
    ·exact h2
    ·rintro⟨rfl,rfl⟩
     have h5:Aw F w' k'=some a:=hs
     rw [h5] at h2
     cases h2
     exact hne h4.symm
   split
   ·rename_i h2s
    refine⟨h.toFz.Aq _ _ _,hatt,fun t q hq h1=> ?_,hoff⟩
    by_cases e:t=a.t
    ·subst e
     have:ofM F a.t=some q:=hq
     rw [hp] at this
     cases this
     rw [h2s] at h1;cases h1
    ·exact hrun t q hq h1 e
   have hG:Dw (Go.Proofs.YtbibeionenjmfaaGreatDoor.setOf (Aq F w k D4) a.t fun p=> {p with st:=2,wh:=(w:Int),saved:= -1}):=by
    have hof:∀ u,ofM (Go.Proofs.YtbibeionenjmfaaGreatDoor.setOf (Aq F w k D4) a.t fun p=> {p with st:=2,wh:=(w:Int),saved:= -1}) u=if u=a.t then(ofM F u).map (fun p=> {p with st:=2,wh:=(w:Int),saved:= -1}) else ofM F u:=fun u=> P3 _ _ _ _
    refine⟨(h.toFz.Aq w k D4).setOf a.t (fun p=> {p with st:=2,wh:=(w:Int),saved:= -1}) fun o p _ _ hq=> ⟨hq.many, .inr (.inr rfl),Int.le_refl _,by show(-1:Int)≤(p.many:Int);omega⟩,fun w' k' b hb hbo=> ?_,fun t q hq h1=> ?_,hoff⟩
    ·obtain⟨q,h1,h2⟩:=hatt w' k' b hb hbo
     rw [hof]
     split
     ·rw [h1];exact⟨_,rfl,h2⟩
     ·exact⟨q,h1,h2⟩
    ·rw [hof] at hq
     split at hq
     ·obtain⟨q0,_,rfl⟩:=Option.map_eq_some_iff.1 hq
      cases h1
     ·rename_i e
      exact hrun t q hq h1 e
   split
   ·exact⟨⟨hG.qs,hG.ws,hG.rows,hG.jl,hG.Hj,hG.part⟩,hG.Ys,hG.run,hG.off⟩
   ·exact hG
theorem Dw.Ct {F:Ad} (h:Dw F) (w:Nat) (many:Int):∀ k,Dw (Ct F w many k)
 | 0=> h
 | k+1=> (Dw.Ct h w many k).Cq w k many
theorem Dw.work {F:Ad} (h:Dw F) (w many:Int):Dw (H4 F w many).2:=by
 unfold H4
 split
 ·exact h
 ·split
  ·exact h
  ·exact h.Ct _ _ _
theorem Aim {s:List UInt8} (h:Ns s=0):(Mr s).length≤60∧∀ l∈Mr s,l.length≤120:=by
 unfold Mr
 by_cases h0:s= []
 ·rw [if_pos (.inl h0)];exact⟨by simp,fun l hl=> by cases hl⟩
 ·rw [if_neg (fun h1=> h1.elim h0 fun h2=> h2 h)]
  unfold Ns at h
  rw [if_neg h0] at h
  split at h
  ·cases h
  split at h
  ·cases h
  rename_i h60
  split at h
  ·cases h
  rename_i h12
  refine⟨by omega,fun l hl=> ?_⟩
  refine Classical.byContradiction fun hc=> h12 (List.any_eq_true.2 ⟨l,hl,by rw [decide_eq_true_eq];omega⟩)
theorem Aeh {s:List UInt8} {rv:List Ax} {fold:Int} {slices:Nat} {early:Bool} (h:N6 s=some (rv,fold,slices,early)):Dp rv fold slices=0∧s=J1 rv fold slices early∧s.length≤800:=by
 unfold N6 at h
 split at h
 ·rename_i hc
  obtain⟨h1,h2,h3,h4⟩:=hc
  simp only [Option.some.injEq,Prod.mk.injEq] at h
  obtain⟨e1,e2,e3,e4⟩:=h
  have hs:=(Na h3).2.2.1
  have e5:((slices:Nat):Int)=(Di s).2.2.1:=by rw [←e3];omega
  rw [e5,←e1,←e2,←e4]
  exact⟨h3,h4.symm,h1⟩
 ·cases h
theorem Af2 {s:List UInt8} {rv:List Ax} {fold slices:Int} {early:Bool} (h1:Dp rv fold slices=0) (h2:s=J1 rv fold slices early) (h3:s.length≤800):N6 s=some (rv,fold,slices.toNat,early):=by
 have h4:=Ll (early:=early) h1
 rw [←h2] at h4
 unfold N6
 rw [h4,if_pos ⟨h3,rfl,h1,h2.symm⟩]
theorem Mn {q:Nat} {rv:List Ax} {fold:Int} {slices:Nat} {early:Bool} {lines:List ByteArray} {size:Nat} {go:Bool} {i:Nat} {p:As} (h:(Er (Dy q rv fold slices early lines size) go)[i]?=some p):Lk (Dy q rv fold slices early lines size) go i p∧p.st=0:=by
 unfold Er Dy at h
 cases go
 ·simp only [Bool.false_eq_true,if_false,List.getElem?_map] at h
  obtain⟨k,hk,rfl⟩:=Option.map_eq_some_iff.1 h
  have hi:=(List.getElem?_eq_some_iff.1 hk).2
  rw [List.getElem_range] at hi
  subst hi
  exact⟨⟨rfl, .inl rfl,by show(-1:Int)≤ -1∧(-1:Int)≤((min size (lines.length - i * size):Nat):Int);omega⟩,rfl⟩
 ·simp only [if_true,List.getElem?_map] at h
  obtain⟨k,hk,rfl⟩:=Option.map_eq_some_iff.1 h
  have hi:=(List.getElem?_eq_some_iff.1 hk).2
  rw [List.getElem_range] at hi
  subst hi
  exact⟨⟨rfl, .inl rfl,by show(-1:Int)≤ -1∧(-1:Int)≤(((U4 rv fold slices lines i).length:Nat):Int);omega⟩,rfl⟩
theorem Ada {nq q:Nat} {rv:List Ax} {fold:Int} {slices:Nat} {early:Bool} {lines:List ByteArray} {size:Nat} (hq:q < nq) (hj:Dp rv fold slices=0) (hl:lines.length≤60) (hs:∀ l∈lines,l.size≤120) (hz:1≤size∧size≤60):Dl nq (Dy q rv fold slices early lines size):=by
 refine⟨hq,hj,hl,hs,hz,fun go=> ?_,?_⟩
 ·unfold Er Dy S3
  cases go <;> simp
 ·show(Of rv fold slices lines).length=slices
  unfold Of;simp
theorem Dw.add {F:Ad} (h:Dw F) (o:Bg) (hl:F.Aj.length < 6) (ho:Dl F.Al.length o) (hp:∀ go i p,(Er o go)[i]?=some p→Lk o go i p∧p.st≠1):Dw {F with Aj:=F.Aj++ [o]}:=by
 have hget:∀ (n:Nat) o',(F.Aj++ [o])[n]?=some o'→F.Aj[n]?=some o'∨(n=F.Aj.length∧o'=o):=fun n o' hn=> by
  by_cases hlt:n < F.Aj.length
  ·rw [List.getElem?_append_left hlt] at hn;exact .inl hn
  ·have hb:=(List.getElem?_eq_some_iff.1 hn).1
   rw [List.length_append,List.length_singleton] at hb
   obtain rfl:n=F.Aj.length:=by omega
   rw [List.getElem?_append_right (Nat.le_refl _),Nat.sub_self] at hn
   exact .inr ⟨rfl,(Option.some.inj hn).symm⟩
 have hold:∀ t p,ofM F t=some p→ofM {F with Aj:=F.Aj++ [o]} t=some p:=fun t p ht=> by
  obtain⟨o1,h1,h2⟩:=Iy ht
  unfold ofM
  show((F.Aj++ [o])[t.1]?).bind _=_
  rw [List.getElem?_append_left (List.getElem?_eq_some_iff.1 h1).1,h1]
  exact h2
 refine⟨⟨h.qs,h.ws,h.rows,by show(F.Aj++ [o]).length≤6;rw [List.length_append,List.length_singleton];omega,fun n o' hn=> ?_,fun n o' go i p hn hq=> ?_⟩,fun w k a ha hon=> ?_,fun t p ht h1=> ?_,h.off⟩
 ·rcases hget n o' hn with h1 | ⟨_,rfl⟩
  ·exact h.Hj n o' h1
  ·exact ho
 ·rcases hget n o' hn with h1 | ⟨_,rfl⟩
  ·exact h.part n o' go i p h1 hq
  ·exact(hp go i p hq).1
 ·obtain⟨p,h1,h2⟩:=h.Ys w k a ha hon
  exact⟨p,hold _ p h1,h2⟩
 ·obtain⟨o1,h2,h3⟩:=Iy ht
  rcases hget _ o1 h2 with h4 | ⟨_,rfl⟩
  ·exact h.run t p (by unfold ofM;rw [h4];exact h3) h1
  ·exact absurd h1 (hp _ _ p h3).2
theorem Dw.take {F:Ad} (h:Dw F) (q:Int) (prog inp:List UInt8) (size:Int):Dw (Ex F q prog inp size).2:=by
 unfold Ex
 split
 ·exact h
 rename_i hq
 split
 ·exact h
 rename_i h6
 split
 ·exact h
 rename_i rv fold slices early hj
 split
 ·exact h
 rename_i hr
 split
 ·exact h
 rename_i hz
 have hr:=Classical.not_not.1 hr
 obtain⟨h1,h2⟩:=Aim hr
 refine h.add _ (by have:=h.jl;omega) (Ada (by omega) (Aeh hj).1 (by rw [List.length_map];exact h1) (fun l hl=> ?_) (by omega)) (fun go i p hp=> ?_)
 ·obtain⟨x,hx,rfl⟩:=List.mem_map.1 hl
  rw [Ak];exact h2 x hx
 ·obtain⟨h3,h4⟩:=Mn hp
  exact⟨h3,by rw [h4];decide⟩
theorem Dw.log {F:Ad} (h:Dw F) (l:List UInt8):Dw {F with log:=l}:=⟨⟨h.qs,h.ws,h.rows,h.jl,h.Hj,h.part⟩,h.Ys,h.run,h.off⟩
theorem Dw.Ok {F:Ad} (h:Dw F) (q:Int) (prog inp:List UInt8) (size:Int):Dw (Cx F q prog inp size).2:=by
 unfold Cx
 dsimp only
 split
 ·exact h
 ·exact(h.take q prog inp size).log _
theorem Abe {F:Ad} {w:Int} (h:(Ei F w).2=0):0≤w∧∃ b,Aw F w.toNat (Ei F w).1=some b∧b.on=false:=by
 unfold Ei at h ⊢
 split at h
 ·cases h
 rename_i hw
 rw [if_neg hw]
 unfold Aw
 cases hr:F.Ap[w.toNat]? with
 | none=> rw [hr] at h;cases h
 | some row=>
   rw [hr] at h
   dsimp only at h ⊢
   cases hf:row.findIdx? (fun a=> !a.on) with
   | none=> rw [hf] at h;cases h
   | some k=>
     dsimp only
     obtain⟨h1,h2,_⟩:=List.findIdx?_eq_some_iff_getElem.1 hf
     refine⟨by omega,row[k],?_,by simpa using h2⟩
     rw [Option.bind_some,List.getElem?_eq_getElem h1]
theorem Ti {Al:List (Int×Int)} {workers Ap:Nat} (hq:Fx Al=0) (hw:1≤workers∧workers≤4) (hs:1≤Ap∧Ap≤3):Dw (Gi Al workers Ap):=by
 have hno:∀ w k a,Aw (Gi Al workers Ap) w k=some a→a=D4:=fun w k a ha=> by
  unfold Aw Gi at ha
  dsimp only at ha
  cases hr:(List.replicate workers (List.replicate Ap D4))[w]? with
  | none=> rw [hr] at ha;cases ha
  | some row=>
    rw [hr] at ha
    have h1:=(List.mem_replicate.1 (List.mem_of_getElem? hr)).2
    subst h1
    exact(List.mem_replicate.1 (List.mem_of_getElem? ha)).2
 refine⟨⟨hq,by show 1≤(List.replicate workers (List.replicate Ap D4)).length∧(List.replicate workers (List.replicate Ap D4)).length≤4;rw [List.length_replicate];exact hw,⟨Ap,hs,fun row hr=> by rw [(List.mem_replicate.1 hr).2,List.length_replicate]⟩,by show([]:List Bg).length≤6;decide,fun n o ho=> (by cases ho),fun n o go i p ho=> (by cases ho)⟩,fun w k a ha hon=> ?_,fun t p hp=> ?_,fun w k a ha _=> hno w k a ha⟩
 ·rw [hno w k a ha] at hon;cases hon
 ·cases hp
end Go.Proofs.YtbibeionenjmfaaGreatDoor
namespace Go.Proofs.YtbibeionenjmfaaGreatDoor
open Go.RowKit
inductive Eu where
 | out
 | Kq
 | hd
 | Gl
 | runs
 | Aj
 | one (n:Nat)
 | Lz (n:Nat)
 | parts (n:Nat)
 | outs (n:Nat)
 | saved (n:Nat)
 | run (a b:Nat)
deriving DecidableEq
structure El where
 xb:Nat
 ro:Option Addr
 rc:Nat
 rs:List Am
 nb:Nat
 tb:Nat
 pb:Nat
 sb:Nat
 pv:Value
 pl:List (Value×Value)
 ob:Nat
 os:List ByteArray
 mb:Nat
 sf:Value→Option Value
structure Bb where
 fb:Nat
 qa:Option Addr
 qc:Nat
 bb:Nat
 lb:Nat
 cap:Nat
 rs:List Nat
 n:Nat
 mb:Nat
 rf:Value→Option Value
 jv:Value
 jg:List El
def Eo (p:Value×Value):List Value:= [p.1,p.2]
theorem Jq (p:Value×Value):(Eo p).length=2:=rfl
def On (b:Nat):List Value:= [.pointer (some ⟨b,0,none⟩)]
theorem Oc (b:Nat):(On b).length=1:=rfl
def Jy (p:As):Int×Int:=(p.st,p.wh)
def D5 (a:F3):Ay:=(a.on,(a.t.1:Int),a.t.2.1,(a.t.2.2:Int))
def Cu (t:Eg):Value:= .agg #[.int .i64 t.1, .bool t.2.1, .int .i64 t.2.2]
def Bz (a b:Nat):Value:= .agg #[.int .i64 a, .int .i64 b]
def Ao (o:Bg) (i:Nat):List ByteArray:=(o.lines.drop (i * o.size)).take o.size
def chunks (o:Bg):List (List ByteArray):=(List.range ((o.lines.length+o.size - 1) / o.size)).map (Ao o)
def B8 (o:Bg) (k:Nat):List Pr:=Dq (given o.rs o.fold o.early o.slices (chunks o) k).flatten
def Oh (o:Bg) (fold:Bool) (i n:Nat) (s:ByteArray):Prop:=
 if fold=true then ∃ m,Fa o.fold (B8 o i) m n∧m≤(B8 o i).length∧s=tx (F8 m ((Ae o.fold (B8 o i)).take n)) else s=tx (F8 n (A9 o.rs o.fold ((Ao o i).take n)))
structure Vn (own:Nat→Eu) (w:World) (B ob:Nat) (vs:List Value) (ls:List (List Pr)):Prop where
 rws:Pa w B ob vs ls
 o1:own ob= .Kq
 o2:∀ v∈vs,∀ q,v.ownBlock=some q→own q= .Kq
theorem Pa.Z8 {w w':World} {base ob:Nat} {vs:List Value} {ls:List (List Pr)} {T:Nat→Prop} (h:Pa w base ob vs ls) (k:Ab T w w') (h1:¬ T ob) (h2:∀ v∈vs,∀ q,v.ownBlock=some q→¬ T q):Pa w' base ob vs ls:=
 ⟨h.bk.kept k h1,h.len,h.lo,fun i v l a b=> k.own (h.own i v l a b) fun q hq=> h2 v (List.mem_of_getElem? a) q hq,h.ne,h.apart⟩
theorem Pa.Bo {w:World} {base base' ob:Nat} {vs:List Value} {ls:List (List Pr)} (h:Pa w base ob vs ls) (hb:base'≤base):Pa w base' ob vs ls:=
 ⟨h.bk,h.len,Nat.le_trans hb h.lo,fun i v l a b=> (h.own i v l a b).Bo hb,h.ne,h.apart⟩
theorem RT.Bo {w:World} {base base' tb pb sb:Nat} {ps ss:List (Int×Int)} (h:RT w base tb pb sb ps ss) (hb:base'≤base):RT w base' tb pb sb ps ss:=
 ⟨h.c0,h.c1,h.op.Bo hb,h.os.Bo hb,Nat.le_trans hb h.bt,h.d1,h.d2,h.d3,h.lp,h.ls,h.l1⟩
theorem BT.Bo {w:World} {base base' bb lb cap n:Nat} {rs:List Nat} {T:List (List Ay)} (h:BT w base bb lb cap n rs T) (hb:base'≤base):BT w base' bb lb cap n rs T:=
 ⟨h.c0,h.ol.Bo hb,fun i r row a b=> (h.ow i r row a b).Bo hb,h.lt,Nat.le_trans hb h.bt,h.d1,h.d2,h.d3,h.lr,h.ln,h.l1,h.l2⟩
theorem Gs.Z8 {w w':World} {B:Nat} {kind:Int} {L:List Pr} {c:Nat} {S LS T:Nat→Prop} {v:Value} (h:Gs w B kind L c S LS v) (k:Ab T w w') (hs:∀ q,S q→¬ T q) (hl:∀ q,LS q→¬ T q):Gs w' B kind L c S LS v:=by
 obtain⟨g,n,la,lc,va,e,h1,h2,h3,h4,h5,h6,h7⟩:=h
 exact⟨g,n,la,lc,va,e,⟨h1.bk.kept k (hs g h4),h1.lo,h1.sl.kept k fun b o e=> hl b (h6 b o e),k.own h1.own fun q e=> hs q (h5 q e),h1.apart,h1.Pk⟩,h2,h3,h4,h5,h6,Nat.lt_of_lt_of_le h7 k.size⟩
structure JHd (w:World) (own:Nat→Eu) (n:Nat) (g:El) (o:Bg):Prop where
 bk:Bk w g.xb [.int .i64 o.queue, .slice g.ro g.rs.length g.rc, .int .i64 o.fold, .bool o.early, .int .i64 o.slices, .pointer (some ⟨g.tb,0,none⟩),g.pv, .slice (some ⟨g.ob,0,none⟩) o.slices o.slices, .map (some g.mb)]
 ox:own g.xb= .one n
 ru:N4 (fun q=> own q= .Kq∧q < g.nb) w g.ro g.rs
 rv:g.rs.map Am.v=o.rs
 nb:g.nb≤w.heap.size
structure JTk (w0 w:World) (own:Nat→Eu) (n:Nat) (g:El) (o:Bg):Prop where
 rt:RT w w0.heap.size g.tb g.pb g.sb (o.parts.map Jy) (o.Cc.map Jy)
 ot:own g.tb= .Lz n∧own g.pb= .Lz n∧own g.sb= .Lz n
structure JPt (w0 w:World) (own:Nat→Eu) (n:Nat) (g:El) (o:Bg):Prop where
 po:Own 2 Eo 133 w w0.heap.size g.pv g.pl
 op:∀ q,g.pv.ownBlock=some q→own q= .parts n
 pn:g.pl.length=o.parts.length
 li:∀ (i:Nat) lv ov,g.pl[i]?=some (lv,ov)→∃ la lc,lv= .slice la (Ao o i).length lc∧Sl 1 C8 w la (Ao o i)∧(la=none→lc=0)∧∀ b off,la=some ⟨b,off,none⟩→own b= .Kq
 mp:∀ (i:Nat) p lv ov,o.parts[i]?=some p→g.pl[i]?=some (lv,ov)→p.st=2→∃ ob vs,ov= .slice (some ⟨ob,0,none⟩) o.slices o.slices∧Vn own w w0.heap.size ob vs (Ke o.fold o.early o.slices (A9 o.rs o.fold (Ao o i)))
structure JOs (w0 w:World) (own:Nat→Eu) (n:Nat) (g:El) (o:Bg):Prop where
 os:Own 1 C8 9 w w0.heap.size (.slice (some ⟨g.ob,0,none⟩) o.slices o.slices) g.os
 oo:own g.ob= .outs n
 on_:g.os.length=o.slices
 od:∀ (i:Nat) p,o.Cc[i]?=some p→p.st=2→g.os[i]?=o.out[i]?
structure JSv (w:World) (own:Nat→Eu) (n:Nat) (g:El) (o:Bg):Prop where
 sv:Ds w Tryz.prog 33 g.mb g.sf
 om:own g.mb= .saved n
 ss:∀ fold (i:Nat) p,(Er o fold)[i]?=some p→(p.saved < 0→g.sf (Cu (n,fold,i))=none)∧(0≤p.saved→∃ s,g.sf (Cu (n,fold,i))=some (.string s)∧Oh o fold i p.saved.toNat s)
 sd:∀ x,g.sf x≠none→∃ (fold:Bool) (i:Nat),i < 64∧x=Cu (n,fold,i)
structure Es (w0 w:World) (own:Nat→Eu) (n:Nat) (g:El) (o:Bg):Prop where
 hd:JHd w own n g o
 tk:JTk w0 w own n g o
 pt:JPt w0 w own n g o
 os:JOs w0 w own n g o
 sv:JSv w own n g o
def Ej (o o':Bg):Prop:=o'.queue=o.queue∧o'.rs=o.rs∧o'.fold=o.fold∧o'.slices=o.slices∧o'.early=o.early∧o'.lines=o.lines∧o'.size=o.size∧o'.out=o.out
def V2 (g g':El):Prop:=g'.xb=g.xb∧g'.ro=g.ro∧g'.rc=g.rc∧g'.rs=g.rs∧g'.nb=g.nb
def Bx (w0 w:World) (own:Nat→Eu) (a b:Nat) (g:El) (o:Bg) (t:Eg) (c:Nat) (v:Value):Prop:=
 if t.2.1=true then ∃ B vf,v= .agg #[.pointer none,vf]∧(w0.heap.size≤B∧B≤w.heap.size)∧Gs w B o.fold (B8 o t.2.2) c (fun q=> own q= .run a b) (fun q=> own q= .run a b) vf
 else ∃ B vm,v= .agg #[vm, .pointer none]∧(g.nb≤B∧w0.heap.size≤B∧B≤w.heap.size)∧D7 w B g.ro g.rc g.rs o.fold o.slices o.early (Ao o t.2.2) c (fun q=> own q= .run a b) vm
theorem Bx.shape {w0 w:World} {own:Nat→Eu} {a b c:Nat} {g:El} {o:Bg} {t:Eg} {v:Value} (h:Bx w0 w own a b g o t c v):∃ r0 r1:Option Addr,v= .agg #[.pointer r0, .pointer r1]:=by
 unfold Bx at h
 split at h
 ·obtain⟨_,vf,rfl,_,h1⟩:=h
  obtain⟨gp,rfl⟩:=h1.ptr
  exact⟨_,_,rfl⟩
 ·obtain⟨_,vf,rfl,_,h1⟩:=h
  obtain⟨gp,rfl⟩:=h1.ptr
  exact⟨_,_,rfl⟩
structure Bv (w0 w:World) (own:Nat→Eu) (G:Bb) (F:Ad):Prop where
 gw:GW w0
 Gj:Below w0.heap.size w0 w
 lo:∀ q,own q≠ .out→w0.heap.size≤q∧q < w.heap.size
 bk:Bk w G.fb [.slice G.qa F.Al.length G.qc, .pointer (some ⟨G.bb,0,none⟩), .map (some G.mb),G.jv, .string (tx F.log)]
 oh:own G.fb= .hd
 qs:Sl 2 B6 w G.qa F.Al
 oq:∀ b o,G.qa=some ⟨b,o,none⟩→own b= .Kq
 bt:BT w w0.heap.size G.bb G.lb G.cap G.n G.rs (F.Ap.map (·.map D5))
 ob:own G.bb= .Gl∧own G.lb= .Gl∧∀ r∈G.rs,own r= .Gl
 rn:Ds w Tryz.prog 60 G.mb G.rf
 Oq:own G.mb= .runs
 rd:∀ x,G.rf x≠none→(∃ a b,a < 4∧b < 3∧x=Bz a b)∧∃ r0 r1:Option Addr,G.rf x=some (.agg #[.pointer r0, .pointer r1])
 rr:∀ a b t,Aw F a b=some t→t.on=true→∃ v g o,G.rf (Bz a b)=some v∧G.jg[t.t.1]?=some g∧F.Aj[t.t.1]?=some o∧Bx w0 w own a b g o t.t t.at_ v
 jo:Own 1 On 92 w w0.heap.size G.jv (G.jg.map El.xb)
 oj:∀ q,G.jv.ownBlock=some q→own q= .Aj
 jn:G.jg.length=F.Aj.length
 js:∀ (n:Nat) g o,G.jg[n]?=some g→F.Aj[n]?=some o→Es w0 w own n g o
section
variable {w0 w w':World} {own own':Nat→Eu} {G:Bb} {F:Ad} {T:Nat→Prop} {n:Nat} {g:El} {o:Bg}
theorem Vn.kept {B ob:Nat} {vs:List Value} {ls:List (List Pr)} (h:Vn own w B ob vs ls) (k:Ab T w w') (hT:∀ q,T q→own q≠ .Kq):Vn own w' B ob vs ls:=
 ⟨h.rws.Z8 k (fun e=> hT _ e h.o1) fun v hv q hq e=> hT q e (h.o2 v hv q hq),h.o1,h.o2⟩
theorem JHd.kept (h:JHd w own n g o) (k:Ab T w w') (hT:∀ q,T q→own q≠ .Kq∧own q≠ .one n):JHd w' own n g o:=
 ⟨h.bk.kept k fun e=> (hT _ e).2 h.ox,h.ox,h.ru.kept k fun q hq e=> (hT q e).1 hq.1,h.rv,Nat.le_trans h.nb k.size⟩
theorem JTk.kept (h:JTk w0 w own n g o) (k:Ab T w w') (hT:∀ q,T q→own q≠ .Lz n):JTk w0 w' own n g o:=
 ⟨h.rt.kept k (fun e=> hT _ e h.ot.1) (fun e=> hT _ e h.ot.2.1) fun e=> hT _ e h.ot.2.2,h.ot⟩
theorem JPt.kept (h:JPt w0 w own n g o) (k:Ab T w w') (hT:∀ q,T q→own q≠ .Kq∧own q≠ .parts n):JPt w0 w' own n g o where
 po:=k.own h.po fun q hq e=> (hT q e).2 (h.op q hq)
 op:=h.op
 pn:=h.pn
 li:=fun i lv ov hi=> by
  obtain⟨la,lc,e,h1,h2,h3⟩:=h.li i lv ov hi
  exact⟨la,lc,e,h1.kept k fun b o e1 e2=> (hT b e2).1 (h3 b o e1),h2,h3⟩
 mp:=fun i p lv ov hp hi h2=> by
  obtain⟨ob,vs,e,h1⟩:=h.mp i p lv ov hp hi h2
  exact⟨ob,vs,e,h1.kept k fun q e=> (hT q e).1⟩
theorem JOs.kept (h:JOs w0 w own n g o) (k:Ab T w w') (hT:∀ q,T q→own q≠ .outs n):JOs w0 w' own n g o:=
 ⟨k.own h.os fun q hq e=> by cases hq;exact hT _ e h.oo,h.oo,h.on_,h.od⟩
theorem JSv.kept (h:JSv w own n g o) (k:Ab T w w') (hT:∀ q,T q→own q≠ .saved n):JSv w' own n g o:=
 ⟨h.sv.kept k fun e=> hT _ e h.om,h.om,h.ss,h.sd⟩
theorem Es.kept (h:Es w0 w own n g o) (k:Ab T w w') (hT:∀ q,T q→own q≠ .Kq∧own q≠ .one n∧own q≠ .Lz n∧own q≠ .parts n∧own q≠ .outs n∧own q≠ .saved n):Es w0 w' own n g o:=
 ⟨h.hd.kept k fun q hq=> ⟨(hT q hq).1,(hT q hq).2.1⟩,h.tk.kept k fun q hq=> (hT q hq).2.2.1,h.pt.kept k fun q hq=> ⟨(hT q hq).1,(hT q hq).2.2.2.1⟩,h.os.kept k fun q hq=> (hT q hq).2.2.2.2.1,h.sv.kept k fun q hq=> (hT q hq).2.2.2.2.2⟩
theorem Es.re (h:Es w0 w own n g o) (ha:∀ q,own q≠ .out→own' q=own q):Es w0 w own' n g o:=
 have e:∀ {q:Nat} {c:Eu},own q=c→c≠ .out→own' q=c:=fun {q c} hq hc=> (ha q (by rw [hq];exact hc)).trans hq
 ⟨⟨h.hd.bk,e h.hd.ox (by simp),h.hd.ru.mono fun q hq=> ⟨e hq.1 (by simp),hq.2⟩,h.hd.rv,h.hd.nb⟩,
   ⟨h.tk.rt,e h.tk.ot.1 (by simp),e h.tk.ot.2.1 (by simp),e h.tk.ot.2.2 (by simp)⟩,
   {po:=h.pt.po,op:=fun q hq=> e (h.pt.op q hq) (by simp),pn:=h.pt.pn
    li:=fun i lv ov hi=> by
     obtain⟨la,lc,e1,h1,h2,h3⟩:=h.pt.li i lv ov hi
     exact⟨la,lc,e1,h1,h2,fun b o e1=> e (h3 b o e1) (by simp)⟩
    mp:=fun i p lv ov hp hi h2=> by
     obtain⟨ob,vs,e1,h1⟩:=h.pt.mp i p lv ov hp hi h2
     exact⟨ob,vs,e1,h1.rws,e h1.o1 (by simp),fun v hv q hq=> e (h1.o2 v hv q hq) (by simp)⟩},
   ⟨h.os.os,e h.os.oo (by simp),h.os.on_,h.os.od⟩,⟨h.sv.sv,e h.sv.om (by simp),h.sv.ss,h.sv.sd⟩⟩
theorem V2.refl (g:El):V2 g g:=⟨rfl,rfl,rfl,rfl,rfl⟩
theorem Ej.A1 (o:Bg) (fold:Bool) (i:Nat) (f:As→As):Ej o (A1 o fold i f):=Mk o fold i f
theorem Ej.lines {o o':Bg} (h:Ej o o') (i:Nat):Ao o' i=Ao o i:=by
 obtain⟨_,_,_,_,_,h1,h2,_⟩:=h
 unfold Ao;rw [h1,h2]
theorem Ej.B8 {o o':Bg} (h:Ej o o') (k:Nat):B8 o' k=Go.Proofs.YtbibeionenjmfaaGreatDoor.B8 o k:=by
 have hl:=fun i=> h.lines i
 obtain⟨_,h1,h2,h3,h4,h5,h6,_⟩:=h
 unfold Go.Proofs.YtbibeionenjmfaaGreatDoor.B8 chunks
 rw [h1,h2,h3,h4,h5,h6]
 have:Ao o'=Ao o:=funext hl
 rw [this]
theorem Ej.saved {o o':Bg} (h:Ej o o') {fold:Bool} {i n:Nat} {s:ByteArray} (hs:Oh o fold i n s):Oh o' fold i n s:=by
 unfold Oh at hs ⊢
 rw [h.B8,h.lines,h.2.1,h.2.2.1]
 exact hs
theorem JHd.to {o':Bg} (h:JHd w own n g o) (hs:Ej o o'):JHd w own n g o':=by
 obtain⟨e1,e2,e3,e4,e5,_⟩:=hs
 exact⟨by rw [e1,e3,e4,e5];exact h.bk,h.ox,h.ru,by rw [e2];exact h.rv,h.nb⟩
theorem JPt.to {o':Bg} (h:JPt w0 w own n g o) (hs:Ej o o') (hl:o'.parts.length=o.parts.length) (h2:∀ (i:Nat) p',o'.parts[i]?=some p'→p'.st=2→∃ p,o.parts[i]?=some p∧p.st=2):JPt w0 w own n g o' where
 po:=h.po
 op:=h.op
 pn:=h.pn.trans hl.symm
 li:=fun i lv ov hi=> by rw [hs.lines];exact h.li i lv ov hi
 mp:=fun i p lv ov hp hi hst=> by
  obtain⟨p0,hp0,hst0⟩:=h2 i p hp hst
  rw [hs.lines,hs.2.1,hs.2.2.1,hs.2.2.2.1,hs.2.2.2.2.1]
  exact h.mp i p0 lv ov hp0 hi hst0
theorem JOs.to {o':Bg} (h:JOs w0 w own n g o) (hs:Ej o o') (h2:∀ (i:Nat) p',o'.Cc[i]?=some p'→p'.st=2→∃ p,o.Cc[i]?=some p∧p.st=2):JOs w0 w own n g o' where
 os:=by rw [hs.2.2.2.1];exact h.os
 oo:=h.oo
 on_:=by rw [hs.2.2.2.1];exact h.on_
 od:=fun i p hp hst=> by
  obtain⟨p0,hp0,hst0⟩:=h2 i p hp hst
  rw [hs.2.2.2.2.2.2.2]
  exact h.od i p0 hp0 hst0
theorem JSv.to {o':Bg} (h:JSv w own n g o) (hs:Ej o o') (h2:∀ fold (i:Nat) p',(Er o' fold)[i]?=some p'→∃ p,(Er o fold)[i]?=some p∧p'.saved=p.saved):JSv w own n g o' where
 sv:=h.sv
 om:=h.om
 ss:=fun fold i p hp=> by
  obtain⟨p0,hp0,e⟩:=h2 fold i p hp
  rw [e]
  refine⟨(h.ss fold i p0 hp0).1,fun h0=> ?_⟩
  obtain⟨s,h3,h4⟩:=(h.ss fold i p0 hp0).2 h0
  exact⟨s,h3,hs.saved h4⟩
 sd:=h.sd
theorem Bx.to {a b c:Nat} {t:Eg} {v:Value} {g':El} {o':Bg} (h:Bx w0 w own a b g o t c v) (hg:V2 g g') (hs:Ej o o'):Bx w0 w own a b g' o' t c v:=by
 obtain⟨_,g1,g2,g3,g4⟩:=hg
 unfold Bx at h ⊢
 rw [hs.lines,hs.B8,hs.2.2.1,hs.2.2.2.1,hs.2.2.2.2.1,g1,g2,g3,g4]
 exact h
theorem Bx.kept {a b c:Nat} {t:Eg} {v:Value} (h:Bx w0 w own a b g o t c v) (k:Ab T w w') (hT:∀ q,T q→own q≠ .run a b):Bx w0 w' own a b g o t c v:=by
 unfold Bx at h ⊢
 split at h
 ·rename_i hf
  rw [if_pos hf]
  obtain⟨B,vf,e,⟨h1,h2⟩,h3⟩:=h
  exact⟨B,vf,e,⟨h1,Nat.le_trans h2 k.size⟩,h3.Z8 k (fun q hq e=> hT q e hq) fun q hq e=> hT q e hq⟩
 ·rename_i hf
  rw [if_neg hf]
  obtain⟨B,vm,e,⟨h1,h2,h4⟩,h3⟩:=h
  exact⟨B,vm,e,⟨h1,h2,Nat.le_trans h4 k.size⟩,h3.kept k fun q hq e=> hT q e hq⟩
theorem Gs.more {B:Nat} {kind:Int} {L:List Pr} {c:Nat} {S LS S' LS':Nat→Prop} {v:Value} (h:Gs w B kind L c S LS v) (hs:∀ q,S q→S' q) (hl:∀ q,LS q→LS' q):Gs w B kind L c S' LS' v:=by
 obtain⟨g,n,la,lc,va,e,h1,h2,h3,h4,h5,h6,h7⟩:=h
 exact⟨g,n,la,lc,va,e,h1,h2,h3,hs g h4,fun q e=> hs q (h5 q e),fun b o e=> hl b (h6 b o e),h7⟩
theorem Bx.re {a b c:Nat} {t:Eg} {v:Value} (h:Bx w0 w own a b g o t c v) (ha:∀ q,own q≠ .out→own' q=own q):Bx w0 w own' a b g o t c v:=by
 have e:∀ {q:Nat},own q= .run a b→own' q= .run a b:=fun {q} hq=> (ha q (by rw [hq];simp)).trans hq
 unfold Bx at h ⊢
 split at h
 ·rename_i hf
  rw [if_pos hf]
  obtain⟨B,vf,e1,h1,h3⟩:=h
  exact⟨B,vf,e1,h1,h3.more (fun q hq=> e hq) fun q hq=> e hq⟩
 ·rename_i hf
  rw [if_neg hf]
  obtain⟨B,vm,e1,h1,h3⟩:=h
  exact⟨B,vm,e1,h1,h3.more fun q hq=> e hq⟩
theorem Bv.Acp (h:Bv w0 w own G F) (k:Ab T w w') (hT:∀ q,T q→own q= .out∧w0.heap.size≤q):Bv w0 w' own G F where
 gw:=h.gw
 Gj:=h.Gj.trans (k.below (fun q hq=> (hT q hq).2) h.Gj.size)
 lo:=fun q hq=> ⟨(h.lo q hq).1,Nat.lt_of_lt_of_le (h.lo q hq).2 k.size⟩
 bk:=h.bk.kept k fun e=> by have:=(hT _ e).1;rw [h.oh] at this;cases this
 oh:=h.oh
 qs:=h.qs.kept k fun b o e1 e=> by have:=(hT _ e).1;rw [h.oq b o e1] at this;cases this
 oq:=h.oq
 bt:=h.bt.kept k (fun e=> by have:=(hT _ e).1;rw [h.ob.1] at this;cases this) (fun e=> by have:=(hT _ e).1;rw [h.ob.2.1] at this;cases this) fun i r hr e=> by have:=(hT _ e).1;rw [h.ob.2.2 r (List.mem_of_getElem? hr)] at this;cases this
 ob:=h.ob
 rn:=h.rn.kept k fun e=> by have:=(hT _ e).1;rw [h.Oq] at this;cases this
 Oq:=h.Oq
 rd:=h.rd
 rr:=fun a b t h1 h2=> by
  obtain⟨v,g,o,e1,e2,e3,e4⟩:=h.rr a b t h1 h2
  exact⟨v,g,o,e1,e2,e3,e4.kept k fun q e=> by rw [(hT q e).1];simp⟩
 jo:=k.own h.jo fun q hq e=> by have:=(hT _ e).1;rw [h.oj q hq] at this;cases this
 oj:=h.oj
 jn:=h.jn
 js:=fun n g o h1 h2=> (h.js n g o h1 h2).kept k fun q e=> by rw [(hT q e).1];simp
theorem Bv.re (h:Bv w0 w own G F) (ha:∀ q,own q≠ .out→own' q=own q) (hl:∀ q,own' q≠ .out→w0.heap.size≤q∧q < w.heap.size):Bv w0 w own' G F:=
 have e:∀ {q:Nat} {c:Eu},own q=c→c≠ .out→own' q=c:=fun {q c} hq hc=> (ha q (by rw [hq];exact hc)).trans hq
 {gw:=h.gw,Gj:=h.Gj,lo:=hl,bk:=h.bk,oh:=e h.oh (by simp),qs:=h.qs,oq:=fun b o e1=> e (h.oq b o e1) (by simp),bt:=h.bt
  ob:=⟨e h.ob.1 (by simp),e h.ob.2.1 (by simp),fun r hr=> e (h.ob.2.2 r hr) (by simp)⟩
  rn:=h.rn,Oq:=e h.Oq (by simp),rd:=h.rd
  rr:=fun a b t h1 h2=> by
   obtain⟨v,g,o,e1,e2,e3,e4⟩:=h.rr a b t h1 h2
   exact⟨v,g,o,e1,e2,e3,e4.re ha⟩
  jo:=h.jo,oj:=fun q hq=> e (h.oj q hq) (by simp),jn:=h.jn,js:=fun n g o h1 h2=> (h.js n g o h1 h2).re ha}
end
end Go.Proofs.YtbibeionenjmfaaGreatDoor
namespace Go.Proofs.YtbibeionenjmfaaGreatDoor
open Go.RowKit
theorem M1 {α:Type} {l:List α} {i:Nat} {x:α} (h:l[i]?=some x):l.set i x=l:=by
 apply List.ext_getElem?
 intro j
 by_cases hj:i=j
 ·subst hj
  rw [List.getElem?_set_self (List.getElem?_eq_some_iff.1 h).1,h]
 ·rw [List.getElem?_set_ne hj]
def Dk (own:Nat→Eu) (lo hi:Nat) (c:Eu):Nat→Eu:=fun q=> if lo≤q∧q < hi then c else own q
theorem Gp {own:Nat→Eu} {lo hi q:Nat} {c:Eu} (h:lo≤q∧q < hi):Dk own lo hi c q=c:=if_pos h
theorem Cd {own:Nat→Eu} {lo hi q:Nat} {c:Eu} (h:¬ (lo≤q∧q < hi)):Dk own lo hi c q=own q:=if_neg h
section
variable {w0 w w':World} {own:Nat→Eu} {G:Bb} {F F':Ad} {T:Nat→Prop} {n:Nat} {g g':El} {o o':Bg}
theorem Bv.O9 (h:Bv w0 w own G F) (hi:Nat) (c:Eu):∀ q,own q≠ .out→Dk own w.heap.size hi c q=own q:=fun q hq=>
 Cd fun e=> by have:=(h.lo q hq).2;omega
theorem Bv.Apg (h:Bv w0 w own G F) (hb:Below w.heap.size w w') (c:Eu):Bv w0 w' (Dk own w.heap.size w'.heap.size c) G F:=by
 have k:=Ab.Ag (S:=fun _=> False) hb (Nat.le_refl _)
 refine(h.Acp k fun q hq=> hq.elim).re (h.O9 _ c) fun q hq=> ?_
 by_cases hin:w.heap.size≤q∧q < w'.heap.size
 ·exact⟨Nat.le_trans h.Gj.size hin.1,hin.2⟩
 ·rw [Cd hin] at hq
  exact⟨(h.lo q hq).1,Nat.lt_of_lt_of_le (h.lo q hq).2 k.size⟩
theorem Bv.job (h:Bv w0 w own G F) (k:Ab T w w') (hT:∀ q,T q→own q= .Lz n∨own q= .parts n∨own q= .outs n∨own q= .saved n) (hg:G.jg[n]?=some g) (ho:F.Aj[n]?=some o) (hc:Es w0 w' own n g' o') (eg:V2 g g') (eo:Ej o o')
 (e1:F'.Al=F.Al) (e2:F'.Ap=F.Ap) (e3:F'.log=F.log) (e4:F'.Aj=F.Aj.set n o'):Bv w0 w' own {G with jg:=G.jg.set n g'} F':=by
 have hno:∀ {q:Nat} {c:Eu},own q=c→c≠ .Lz n→c≠ .parts n→c≠ .outs n→c≠ .saved n→¬ T q:=fun {q c} hq h1 h2 h3 h4 ht=> by
  rcases hT q ht with e | e | e | e <;> rw [e] at hq
  ·exact h1 hq.symm
  ·exact h2 hq.symm
  ·exact h3 hq.symm
  ·exact h4 hq.symm
 have hlo:∀ q,T q→w0.heap.size≤q:=fun q hq=> (h.lo q (by rcases hT q hq with e | e | e | e <;> rw [e] <;> simp)).1
 have hnl:n < G.jg.length:=(List.getElem?_eq_some_iff.1 hg).1
 have hol:n < F.Aj.length:=(List.getElem?_eq_some_iff.1 ho).1
 exact {
  gw:=h.gw
  Gj:=h.Gj.trans (k.below hlo h.Gj.size)
  lo:=fun q hq=> ⟨(h.lo q hq).1,Nat.lt_of_lt_of_le (h.lo q hq).2 k.size⟩
  bk:=by rw [e1,e3];exact h.bk.kept k (hno h.oh (by simp) (by simp) (by simp) (by simp))
  oh:=h.oh
  qs:=by rw [e1];exact h.qs.kept k fun b o e1=> hno (h.oq b o e1) (by simp) (by simp) (by simp) (by simp)
  oq:=h.oq
  bt:=by rw [e2];exact h.bt.kept k (hno h.ob.1 (by simp) (by simp) (by simp) (by simp)) (hno h.ob.2.1 (by simp) (by simp) (by simp) (by simp)) fun i r hr=> hno (h.ob.2.2 r (List.mem_of_getElem? hr)) (by simp) (by simp) (by simp) (by simp)
  ob:=h.ob
  rn:=h.rn.kept k (hno h.Oq (by simp) (by simp) (by simp) (by simp))
  Oq:=h.Oq
  rd:=h.rd
  rr:=fun a b t h1 h2=> by
   have h1':Aw F a b=some t:=by unfold Aw at h1 ⊢;rw [←e2];exact h1
   obtain⟨v,g0,o0,x1,x2,x3,x4⟩:=h.rr a b t h1' h2
   have x5:=x4.kept k fun q hq=> by rcases hT q hq with e | e | e | e <;> rw [e] <;> simp
   by_cases hn:t.t.1=n
   ·rw [hn] at x2 x3
    rw [hg] at x2;rw [ho] at x3
    cases x2;cases x3
    exact⟨v,g',o',x1,by rw [hn];exact List.getElem?_set_self hnl,by rw [hn,e4];exact List.getElem?_set_self hol,x5.to eg eo⟩
   ·exact⟨v,g0,o0,x1,by rw [List.getElem?_set_ne (fun e=> hn e.symm)];exact x2,by rw [e4,List.getElem?_set_ne (fun e=> hn e.symm)];exact x3,x5⟩
  jo:=by
   have:(G.jg.set n g').map El.xb=G.jg.map El.xb:=by
    rw [List.map_set,eg.1]
    exact M1 (by rw [List.getElem?_map,hg];rfl)
   rw [this]
   exact k.own h.jo fun q hq=> hno (h.oj q hq) (by simp) (by simp) (by simp) (by simp)
  oj:=h.oj
  jn:=by rw [e4,List.length_set,List.length_set];exact h.jn
  js:=fun m g1 o1 h1 h2=> by
   rw [e4] at h2
   by_cases hm:n=m
   ·subst hm
    rw [List.getElem?_set_self hnl] at h1
    rw [List.getElem?_set_self hol] at h2
    cases h1;cases h2
    exact hc
   ·rw [List.getElem?_set_ne hm] at h1 h2
    refine(h.js m g1 o1 h1 h2).kept k fun q hq=> ?_
    rcases hT q hq with e | e | e | e <;> rw [e] <;> refine⟨by simp,by simp,?_,?_,?_,?_⟩ <;> simp [hm]}
theorem Qf {F:Ad} {a b:Nat} {row:List F3} (x:F3) (hr:F.Ap[a]?=some row):(Aq F a b x).Ap.map (·.map D5)=(F.Ap.map (·.map D5)).set a ((row.map D5).set b (D5 x)):=by
 unfold Aq
 apply List.ext_getElem?
 intro i
 have hal:=(List.getElem?_eq_some_iff.1 hr).1
 rw [List.getElem?_map,get_modify]
 by_cases hi:a=i
 ·subst hi
  rw [if_pos rfl,hr,List.getElem?_set_self (by rw [List.length_map];exact hal)]
  simp [List.map_set]
 ·rw [if_neg hi,List.getElem?_set_ne hi,List.getElem?_map]
theorem Kv {F:Ad} {a b:Nat} {t:F3} (h:Aw F a b=some t):∃ row,F.Ap[a]?=some row∧row[b]?=some t:=by
 unfold Aw at h
 cases hr:F.Ap[a]? with
 | none=> rw [hr] at h;cases h
 | some row=> rw [hr] at h;exact⟨row,rfl,h⟩
theorem Bv.Gl (h:Bv w0 w own G F) (k:Ab T w w') (hT:∀ q,T q→own q= .Gl) (e1:F'.Al=F.Al) (e2:F'.Aj=F.Aj) (e3:F'.log=F.log) (bt':BT w' w0.heap.size G.bb G.lb G.cap G.n G.rs (F'.Ap.map (·.map D5)))
 (hr:∀ a b t,Aw F' a b=some t→t.on=true→Aw F a b=some t∨∃ v g o,G.rf (Bz a b)=some v∧G.jg[t.t.1]?=some g∧F.Aj[t.t.1]?=some o∧Bx w0 w own a b g o t.t t.at_ v):Bv w0 w' own G F':=by
 have hno:∀ {q:Nat} {c:Eu},own q=c→c≠ .Gl→¬ T q:=fun {q c} hq h1 ht=> h1 (hq ▸ hT q ht)
 have hlo:∀ q,T q→w0.heap.size≤q:=fun q hq=> (h.lo q (by rw [hT q hq];simp)).1
 exact {
  gw:=h.gw
  Gj:=h.Gj.trans (k.below hlo h.Gj.size)
  lo:=fun q hq=> ⟨(h.lo q hq).1,Nat.lt_of_lt_of_le (h.lo q hq).2 k.size⟩
  bk:=by rw [e1,e3];exact h.bk.kept k (hno h.oh (by simp))
  oh:=h.oh
  qs:=by rw [e1];exact h.qs.kept k fun b o e1=> hno (h.oq b o e1) (by simp)
  oq:=h.oq
  bt:=bt'
  ob:=h.ob
  rn:=h.rn.kept k (hno h.Oq (by simp))
  Oq:=h.Oq
  rd:=h.rd
  rr:=fun a b t h1 h2=> by
   have:∃ v g o,G.rf (Bz a b)=some v∧G.jg[t.t.1]?=some g∧F.Aj[t.t.1]?=some o∧Bx w0 w own a b g o t.t t.at_ v:=by
    rcases hr a b t h1 h2 with e | e
    ·exact h.rr a b t e h2
    ·exact e
   obtain⟨v,g0,o0,x1,x2,x3,x4⟩:=this
   exact⟨v,g0,o0,x1,x2,by rw [e2];exact x3,x4.kept k fun q hq=> by rw [hT q hq];simp⟩
  jo:=k.own h.jo fun q hq=> hno (h.oj q hq) (by simp)
  oj:=h.oj
  jn:=by rw [e2];exact h.jn
  js:=fun m g1 o1 h1 h2=> (h.js m g1 o1 h1 (by rw [←e2];exact h2)).kept k fun q hq=> by rw [hT q hq];simp}
theorem Bv.runs {rf':Value→Option Value} (h:Bv w0 w own G F) (k:Ab T w w') (hT:∀ q,T q→own q= .runs) (rn':Ds w' Tryz.prog 60 G.mb rf') (rd':∀ x,rf' x≠none→(∃ a b,a < 4∧b < 3∧x=Bz a b)∧∃ r0 r1:Option Addr,rf' x=some (.agg #[.pointer r0, .pointer r1]))
 (hr:∀ a b t,Aw F a b=some t→t.on=true→rf' (Bz a b)=G.rf (Bz a b)):Bv w0 w' own {G with rf:=rf'} F:=by
 have hno:∀ {q:Nat} {c:Eu},own q=c→c≠ .runs→¬ T q:=fun {q c} hq h1 ht=> h1 (hq ▸ hT q ht)
 have hlo:∀ q,T q→w0.heap.size≤q:=fun q hq=> (h.lo q (by rw [hT q hq];simp)).1
 exact {
  gw:=h.gw
  Gj:=h.Gj.trans (k.below hlo h.Gj.size)
  lo:=fun q hq=> ⟨(h.lo q hq).1,Nat.lt_of_lt_of_le (h.lo q hq).2 k.size⟩
  bk:=h.bk.kept k (hno h.oh (by simp))
  oh:=h.oh
  qs:=h.qs.kept k fun b o e1=> hno (h.oq b o e1) (by simp)
  oq:=h.oq
  bt:=h.bt.kept k (hno h.ob.1 (by simp)) (hno h.ob.2.1 (by simp)) fun i r hr=> hno (h.ob.2.2 r (List.mem_of_getElem? hr)) (by simp)
  ob:=h.ob
  rn:=rn'
  Oq:=h.Oq
  rd:=rd'
  rr:=fun a b t h1 h2=> by
   obtain⟨v,g0,o0,x1,x2,x3,x4⟩:=h.rr a b t h1 h2
   exact⟨v,g0,o0,(hr a b t h1 h2).trans x1,x2,x3,x4.kept k fun q hq=> by rw [hT q hq];simp⟩
  jo:=k.own h.jo fun q hq=> hno (h.oj q hq) (by simp)
  oj:=h.oj
  jn:=h.jn
  js:=fun m g1 o1 h1 h2=> (h.js m g1 o1 h1 h2).kept k fun q hq=> by rw [hT q hq];simp}
theorem Bv.run {a b c:Nat} {t:F3} {v:Value} (h:Bv w0 w own G F) (k:Ab (fun q=> own q= .run a b) w w') (ht:Aw F a b=some t) (hg:G.jg[t.t.1]?=some g) (ho:F.Aj[t.t.1]?=some o) (hv:G.rf (Bz a b)=some v)
 (hr:Bx w0 w' (Dk own w.heap.size w'.heap.size (.run a b)) a b g o t.t c v):Bv w0 w' (Dk own w.heap.size w'.heap.size (.run a b)) G (Aq F a b {t with at_:=c}):=by
 have hno:∀ {q:Nat} {d:Eu},own q=d→d≠ .run a b→¬ own q= .run a b:=fun {q d} hq h1 ht=> h1 (hq ▸ ht)
 have hlo:∀ q,own q= .run a b→w0.heap.size≤q:=fun q hq=> (h.lo q (by rw [hq];simp)).1
 have ha:=h.O9 w'.heap.size (.run a b)
 have e:∀ {q:Nat} {d:Eu},own q=d→d≠ .out→Dk own w.heap.size w'.heap.size (.run a b) q=d:=fun {q d} hq hc=> (ha q (by rw [hq];exact hc)).trans hq
 obtain⟨row,hrow,hb⟩:=Kv ht
 exact {
  gw:=h.gw
  Gj:=h.Gj.trans (k.below hlo h.Gj.size)
  lo:=fun q hq=> by
   by_cases hin:w.heap.size≤q∧q < w'.heap.size
   ·exact⟨Nat.le_trans h.Gj.size hin.1,hin.2⟩
   ·rw [Cd hin] at hq
    exact⟨(h.lo q hq).1,Nat.lt_of_lt_of_le (h.lo q hq).2 k.size⟩
  bk:=h.bk.kept k (hno h.oh (by simp))
  oh:=e h.oh (by simp)
  qs:=h.qs.kept k fun b o e1=> hno (h.oq b o e1) (by simp)
  oq:=fun b o e1=> e (h.oq b o e1) (by simp)
  bt:=by
   have:(Aq F a b {t with at_:=c}).Ap.map (·.map D5)=F.Ap.map (·.map D5):=by
    rw [Qf _ hrow]
    have h2:(row.map D5).set b (D5 {t with at_:=c})=row.map D5:=M1 (by rw [List.getElem?_map,hb];rfl)
    rw [h2]
    exact M1 (by rw [List.getElem?_map,hrow];rfl)
   rw [this]
   exact h.bt.kept k (hno h.ob.1 (by simp)) (hno h.ob.2.1 (by simp)) fun i r hr=> hno (h.ob.2.2 r (List.mem_of_getElem? hr)) (by simp)
  ob:=⟨e h.ob.1 (by simp),e h.ob.2.1 (by simp),fun r hr=> e (h.ob.2.2 r hr) (by simp)⟩
  rn:=h.rn.kept k (hno h.Oq (by simp))
  Oq:=e h.Oq (by simp)
  rd:=h.rd
  rr:=fun a' b' t' h1 h2=> by
   rw [Da] at h1
   split at h1
   ·rename_i hab
    obtain⟨rfl,rfl⟩:=hab
    rw [ht] at h1
    cases h1
    exact⟨v,g,o,hv,hg,ho,hr⟩
   ·rename_i hab
    obtain⟨v1,g1,o1,x1,x2,x3,x4⟩:=h.rr a' b' t' h1 h2
    refine⟨v1,g1,o1,x1,x2,x3,(x4.kept k fun q hq=> ?_).re ha⟩
    rw [hq]
    intro e3
    cases e3
    exact hab ⟨rfl,rfl⟩
  jo:=k.own h.jo fun q hq=> hno (h.oj q hq) (by simp)
  oj:=fun q hq=> e (h.oj q hq) (by simp)
  jn:=h.jn
  js:=fun m g1 o1 h1 h2=> ((h.js m g1 o1 h1 h2).kept k fun q hq=> by rw [hq];simp).re ha}
theorem Bv.Ank (h:Bv w0 w own G F) (l:List UInt8):Bv w0 (w.setCell ⟨G.fb,4,none⟩ (.string (tx l))) own G {F with log:=l}:=by
 have k:Ab (fun q=> q=G.fb) w (w.setCell ⟨G.fb,4,none⟩ (.string (tx l))):=(Ab.refl (fun q=> q=G.fb) w).setCell (p:=⟨G.fb,4,none⟩) rfl _
 have hno:∀ {q:Nat} {c:Eu},own q=c→c≠ .hd→¬ q=G.fb:=fun {q c} hq h1 ht=> by rw [ht,h.oh] at hq;exact h1 hq.symm
 have hne:∀ q,q=G.fb→own q= .hd:=fun q e=> e ▸ h.oh
 exact {
  gw:=h.gw
  Gj:=h.Gj.trans (k.below (fun q hq=> by rw [hq];exact(h.lo _ (by rw [h.oh];simp)).1) h.Gj.size)
  lo:=fun q hq=> ⟨(h.lo q hq).1,Nat.lt_of_lt_of_le (h.lo q hq).2 k.size⟩
  bk:=h.bk.set (k:=4) (u:= .string (tx F.log)) (.string (tx l)) rfl
  oh:=h.oh
  qs:=h.qs.kept k fun b o e1=> hno (h.oq b o e1) (by simp)
  oq:=h.oq
  bt:=h.bt.kept k (hno h.ob.1 (by simp)) (hno h.ob.2.1 (by simp)) fun i r hr=> hno (h.ob.2.2 r (List.mem_of_getElem? hr)) (by simp)
  ob:=h.ob
  rn:=h.rn.kept k (hno h.Oq (by simp))
  Oq:=h.Oq
  rd:=h.rd
  rr:=fun a b t h1 h2=> by
   obtain⟨v,g0,o0,x1,x2,x3,x4⟩:=h.rr a b t h1 h2
   exact⟨v,g0,o0,x1,x2,x3,x4.kept k fun q hq=> by rw [hne q hq];simp⟩
  jo:=k.own h.jo fun q hq=> hno (h.oj q hq) (by simp)
  oj:=h.oj
  jn:=h.jn
  js:=fun m g1 o1 h1 h2=> (h.js m g1 o1 h1 h2).kept k fun q hq=> by rw [hne q hq];simp}
end
end Go.Proofs.YtbibeionenjmfaaGreatDoor
namespace Go.Proofs.YtbibeionenjmfaaGreatDoor
open Go.RowKit
section
variable {w0 w w':World} {own:Nat→Eu} {G:Bb} {F F':Ad}
theorem Bv.rows (h:Bv w0 w own G F):G.rs.length=F.Ap.length:=by have:=h.bt.lt;rw [List.length_map] at this;exact this.symm
theorem Bv.Vx (h:Bv w0 w own G F) {a:Nat} {row:List F3} (hr:F.Ap[a]?=some row):row.length=G.n:=by
 have hl:=(List.getElem?_eq_some_iff.1 hr).1
 obtain⟨r,row',_,h2,h3,_⟩:=h.bt.row (i:=a) (by rw [h.rows];exact hl)
 rw [List.getElem?_map,hr] at h2
 cases h2
 simpa using h3
theorem Bv.slot (h:Bv w0 w own G F) {a b:Nat} (hl:a < G.rs.length) (hb:b < G.n):∃ r row t,G.rs[a]?=some r∧F.Ap[a]?=some row∧row[b]?=some t∧Aw F a b=some t∧(F.Ap.map (·.map D5))[a]?=some (row.map D5)∧(row.map D5)[b]?=some (D5 t)∧own r= .Gl:=by
 have hl2:a < F.Ap.length:=by rw [←h.rows];exact hl
 have hr:F.Ap[a]?=some F.Ap[a]:=List.getElem?_eq_getElem hl2
 have hn:=h.Vx hr
 have hb2:b < F.Ap[a].length:=by rw [hn];exact hb
 have ht:F.Ap[a][b]?=some F.Ap[a][b]:=List.getElem?_eq_getElem hb2
 have hg:G.rs[a]?=some G.rs[a]:=List.getElem?_eq_getElem hl
 exact⟨_,_,_,hg,hr,ht,by unfold Aw;rw [hr];exact ht,by rw [List.getElem?_map,hr];rfl,by rw [List.getElem?_map,ht];rfl,h.ob.2.2 _ (List.mem_of_getElem? hg)⟩
theorem Bv.Amk (h:Bv w0 w own G F) {a b:Int} (hn:¬ (0≤a∧a < G.rs.length∧0≤b∧b < G.n)):inM F a b=(F4,5):=by
 unfold inM
 by_cases h0:a < 0∨b < 0
 ·rw [if_pos h0]
 ·rw [if_neg h0]
  cases hs:(F.Ap[a.toNat]?).bind (·[b.toNat]?) with
  | none=> rfl
  | some t=>
    exfalso
    obtain⟨row,h1,h2⟩:=Kv (F:=F) (a:=a.toNat) (b:=b.toNat) hs
    have h3:=(List.getElem?_eq_some_iff.1 h1).1
    have h4:=(List.getElem?_eq_some_iff.1 h2).1
    rw [h.Vx h1] at h4
    rw [←h.rows] at h3
    omega
theorem Aki {F:Ad} {a b:Nat} {t:F3} (h:Aw F a b=some t):inM F a b=if t.on=true then(t.t,0) else(F4,7):=by
 unfold inM
 rw [if_neg (by omega),Int.toNat_natCast,Int.toNat_natCast]
 unfold Aw at h
 rw [h]
theorem Al9 (a b:Int) (h:Bv w0 w own G F):
 Calls Tryz.prog 46 #[.pointer (some ⟨G.bb,0,none⟩), .agg #[.int .i64 a, .int .i64 b]] w fun e w'=> e= .returned (.tuple #[Cu (inM F a b).1,Ed (inM F a b).2])∧Below w.heap.size w w':=by
 by_cases hn:0≤a∧a < G.rs.length∧0≤b∧b < G.n
 ·obtain⟨i,rfl⟩:∃ i:Nat,a=i:=⟨a.toNat,by omega⟩
  obtain⟨j,rfl⟩:∃ j:Nat,b=j:=⟨b.toNat,by omega⟩
  obtain⟨r,row,t,h1,h2,h3,h4,h5,h6,_⟩:=h.slot (a:=i) (b:=j) (by omega) (by omega)
  refine(Ajc h.bt h1 h5 h6).mono ?_
  rintro e w' ⟨rfl,hb⟩
  refine⟨?_,hb⟩
  rw [Aki h4]
  unfold inV D5 Cu F4
  cases t.on
  ·rfl
  ·simp only [if_true];rw [A2]
 ·rw [h.Amk hn]
  exact Ane a b h.bt hn
theorem Akw {α:Type} (p:α→Bool) (l:List α):K5 p l=match l.findIdx? p with | some k=> (k:Int) | none=> -1:=rfl
theorem Ad6 (row:List F3):La (row.map D5)=match row.findIdx? (fun a=> !a.on) with | some k=> (k:Int) | none=> -1:=by
 unfold La K5
 rw [List.findIdx?_map]
 have:((fun s:Ay=> !s.1) ∘ D5)=fun a=> !a.on:=rfl
 rw [this]
 cases row.findIdx? (fun a=> !a.on) <;> rfl
def Tz (F:Ad) (wk:Int):Value:=if (Ei F wk).2=0 then .agg #[.int .i64 wk, .int .i64 (Ei F wk).1] else .agg #[.int .i64 0, .int .i64 0]
theorem Agh (wk:Int) (h:Bv w0 w own G F):
 Calls Tryz.prog 43 #[.pointer (some ⟨G.bb,0,none⟩), .int .i64 wk] w fun e w'=> e= .returned (.tuple #[Tz F wk,Ed (Ei F wk).2])∧Below w.heap.size w w':=by
 by_cases hn:0≤wk∧wk < G.rs.length
 ·obtain⟨i,rfl⟩:∃ i:Nat,wk=i:=⟨wk.toNat,by omega⟩
  have hl2:i < F.Ap.length:=by have:=h.rows;omega
  have hr:F.Ap[i]?=some F.Ap[i]:=List.getElem?_eq_getElem hl2
  have h5:(F.Ap.map (·.map D5))[i]?=some (F.Ap[i].map D5):=by rw [List.getElem?_map,hr];rfl
  refine(Ajs h.bt h5).mono ?_
  rintro e w' ⟨rfl,hb⟩
  refine⟨?_,hb⟩
  have hrow:=Ad6 F.Ap[i]
  unfold Aja Tz
  cases hf:F.Ap[i].findIdx? (fun a=> !a.on) with
  | none=>
    rw [hf] at hrow
    have e2:Ei F (i:Int)=(0,8):=by
     unfold Ei
     rw [if_neg (by omega),Int.toNat_natCast,hr]
     dsimp only
     rw [hf]
    rw [hrow,e2]
    rfl
  | some k=>
    rw [hf] at hrow
    have e2:Ei F (i:Int)=(k,0):=by
     unfold Ei
     rw [if_neg (by omega),Int.toNat_natCast,hr]
     dsimp only
     rw [hf]
    rw [hrow,e2]
    dsimp only
    rw [if_neg (Int.not_lt.2 (Int.natCast_nonneg k)),if_pos rfl,A2]
 ·have he:Ei F wk=(0,5):=by
   unfold Ei
   split
   ·rfl
   ·have:F.Ap[wk.toNat]?=none:=List.getElem?_eq_none (by have:=h.rows;omega)
    rw [this]
  unfold Tz
  rw [he]
  exact Ah2 wk h.bt hn
theorem V8 (h:Bv w0 w own G F):
 Calls Tryz.prog 78 #[.pointer (some ⟨G.bb,0,none⟩)] w fun e w'=> e= .returned (.tuple #[.int .i64 F.Ap.length, .int .i64 G.n])∧Below w.heap.size w w':=by
 have:=Aik h.bt
 rw [h.rows] at this
 exact this
theorem Ajr {a b:Nat} {t:F3} (h:Bv w0 w own G F) (ht:Aw F a b=some t) (hon:t.on=true):
 Calls Tryz.prog 82 #[.pointer (some ⟨G.bb,0,none⟩), .agg #[.int .i64 a, .int .i64 b]] w fun e w'=> e= .returned (.tuple #[Cu t.t, .nilIface])∧Ab (fun q=> own q= .Gl) w w'∧Bv w0 w' own G (Aq F a b D4):=by
 obtain⟨row0,hr0,hb0⟩:=Kv ht
 have hl:=(List.getElem?_eq_some_iff.1 hr0).1
 have hbl:=(List.getElem?_eq_some_iff.1 hb0).1
 rw [h.Vx hr0] at hbl
 obtain⟨r,row,t',h1,h2,h3,h4,h5,h6,h7⟩:=h.slot (a:=a) (b:=b) (by rw [h.rows];exact hl) hbl
 rw [hr0] at h2;cases h2
 rw [hb0] at h3;cases h3
 have e6:D5 t=(true,(t.t.1:Int),t.t.2.1,(t.t.2.2:Int)):=by unfold D5;rw [hon]
 rw [e6] at h6
 refine(Amh h.bt h1 h5 h6).mono ?_
 rintro e w' ⟨rfl,k,hbt⟩
 have k':=k.mono (T:=fun q=> own q= .Gl) fun q hq=> hq ▸ h7
 refine⟨rfl,k',h.Gl k' (fun q hq=> hq) rfl rfl rfl ?_ fun a' b' t' h1 h2=> ?_⟩
 ·rw [Qf D4 hr0];exact hbt
 ·rw [Da] at h1
  split at h1
  ·rw [ht] at h1;cases h1;cases h2
  ·exact .inl h1
theorem Ajl {a b c:Nat} {t:F3} {t':Eg} (h:Bv w0 w own G F) (ht:Aw F a b=some t) (hoff:t.on=false) (hr:∃ v g o,G.rf (Bz a b)=some v∧G.jg[t'.1]?=some g∧F.Aj[t'.1]?=some o∧Bx w0 w own a b g o t' c v):
 Calls Tryz.prog 77 #[.pointer (some ⟨G.bb,0,none⟩), .agg #[.int .i64 a, .int .i64 b],Cu t'] w fun e w'=> e= .returned .nilIface∧Ab (fun q=> own q= .Gl) w w'∧Bv w0 w' own G (Aq F a b ⟨true,t',c⟩):=by
 obtain⟨row0,hr0,hb0⟩:=Kv ht
 have hl:=(List.getElem?_eq_some_iff.1 hr0).1
 have hbl:=(List.getElem?_eq_some_iff.1 hb0).1
 rw [h.Vx hr0] at hbl
 obtain⟨r,row,t1,h1,h2,h3,h4,h5,h6,h7⟩:=h.slot (a:=a) (b:=b) (by rw [h.rows];exact hl) hbl
 rw [hr0] at h2;cases h2
 rw [hb0] at h3;cases h3
 refine(Amg h.bt h1 h5 h6 hoff).mono ?_
 rintro e w' ⟨rfl,k,hbt⟩
 have k':=k.mono (T:=fun q=> own q= .Gl) fun q hq=> hq ▸ h7
 refine⟨rfl,k',h.Gl k' (fun q hq=> hq) rfl rfl rfl ?_ fun a' b' x h1 h2=> ?_⟩
 ·rw [Qf _ hr0];exact hbt
 ·rw [Da] at h1
  split at h1
  ·rename_i hab
   obtain⟨rfl,rfl⟩:=hab
   rw [ht] at h1;cases h1
   exact .inr hr
  ·exact .inl h1
end
end Go.Proofs.YtbibeionenjmfaaGreatDoor
namespace Go.Proofs.YtbibeionenjmfaaGreatDoor
open Go.RowKit
theorem Aev {l:List As} {i:Nat} (h:l.findIdx? (fun p=> p.st ==0)=some i):∃ p,l[i]?=some p∧p.st=0:=by
 obtain⟨hi,h1,_⟩:=List.findIdx?_eq_some_iff_getElem.1 h
 exact⟨l[i],List.getElem?_eq_getElem hi,by simpa using h1⟩
theorem Y2 {o:Bg} {f:Bool} {i:Nat} (h:Ik o=some (f,i)):(∃ p,(Er o f)[i]?=some p∧p.st=0)∧(f=true→Sg o.parts=true):=by
 unfold Ik at h
 split at h
 ·cases h
 ·split at h
  ·next i' hi=>
   cases h
   exact⟨Aev hi,fun hc=> by cases hc⟩
  ·split at h
   ·next hall=>
    cases hf:o.Cc.findIdx? (fun p=> p.st ==0) with
    | none=> rw [hf] at h;cases h
    | some i'=>
      rw [hf] at h
      cases h
      exact⟨Aev hf,fun _=> hall⟩
   ·cases h
theorem Aau (q:Nat):∀ (l:List Bg) (n:Nat) (t:Eg),De q n l=some t→n≤t.1∧∃ o,l[t.1 - n]?=some o∧o.queue=q∧Ik o=some (t.2.1,t.2.2)
 | [],_,_,h=> by cases h
 | o::l,n,t,h=> by
   have hrec:De q (n+1) l=some t→n≤t.1∧∃ o',(o::l)[t.1 - n]?=some o'∧o'.queue=q∧Ik o'=some (t.2.1,t.2.2):=fun h1=> by
    obtain⟨h2,o',h3,h4⟩:=Aau q l (n+1) t h1
    refine⟨by omega,o',?_,h4⟩
    have e1:t.1 - n=(t.1 - (n+1))+1:=by omega
    rw [e1,List.getElem?_cons_succ]
    exact h3
   unfold De at h
   split at h
   ·next hq=>
    split at h
    ·next f i hj=>
     cases h
     exact⟨Nat.le_refl _,o,by simp,hq,hj⟩
    ·exact hrec h
   ·exact hrec h
theorem Aax {F:Ad} {t:Eg} (h:Ig F=some t):∃ o,F.Aj[t.1]?=some o∧Ik o=some (t.2.1,t.2.2)∧(o.queue:Int)=Ca F.Al (Mm F) (E3 F) F.Al.length:=by
 unfold Ig at h
 dsimp only at h
 split at h
 ·cases h
 ·next hq=>
  obtain⟨_,o,h1,h2,h3⟩:=Aau _ _ _ _ h
  rw [Nat.sub_zero] at h1
  exact⟨o,h1,h3,by omega⟩
theorem S5 {F:Ad} {t:Eg} {o:Bg} (ho:F.Aj[t.1]?=some o) (hn:Ik o=some (t.2.1,t.2.2)):∃ p,ofM F t=some p∧p.st=0:=by
 obtain⟨⟨p,h1,h2⟩,_⟩:=Y2 hn
 exact⟨p,by unfold ofM;rw [ho];exact h1,h2⟩
theorem Dw.offer {F:Ad} (h:Dw F) (w:Int):Dw (E5 F w).2:=by
 unfold E5
 dsimp only
 split
 ·exact h
 ·next hr=>
  have hr0:(Ei F w).2=0:=Decidable.byContradiction hr
  split
  ·exact h
  ·next t ht=>
   obtain⟨o,ho,hn,_⟩:=Aax ht
   obtain⟨p,hp,_⟩:=S5 ho hn
   obtain⟨_,b,hb,hoff⟩:=Abe hr0
   exact h.begin hb hoff hp
end Go.Proofs.YtbibeionenjmfaaGreatDoor
namespace Go.Proofs.YtbibeionenjmfaaGreatDoor
open Go.RowKit
theorem Rs (o:Bg):∀ k,((List.range k).map (Ao o)).flatten=o.lines.take (k * o.size)
 | 0=> by simp
 | k+1=> by
   rw [List.range_succ,List.map_append,List.flatten_append,Rs o k]
   simp only [List.map_cons,List.map_nil,List.flatten_cons,List.flatten_nil,List.append_nil]
   unfold Ao
   rw [Nat.succ_mul,List.take_add]
theorem Ak1 {n s:Nat} (hs:1≤s):n≤(n+s - 1) / s * s:=by
 have h1:=Nat.div_add_mod (n+s - 1) s
 have h2:=Nat.mod_lt (n+s - 1) (by omega:0 < s)
 rw [Nat.mul_comm] at h1
 omega
theorem Jn {o:Bg} (hs:1≤o.size):(chunks o).flatten=o.lines:=by
 unfold chunks
 rw [Rs,List.take_of_length_le (Ak1 hs)]
theorem Cn (o:Bg) (i:Nat):(Ao o i).length=G7 o false i:=by
 unfold Ao G7;simp
theorem Hu {o:Bg} {i:Nat} {l:ByteArray} (h:l∈Ao o i):l∈o.lines:=List.mem_of_mem_drop (List.mem_of_mem_take h)
section
variable {nq:Nat} {o:Bg} (h:Dl nq o)
include h
theorem Dl.many:1≤o.rs.length∧o.rs.length≤4:=by
 have:=h.ok
 unfold Dp at this
 split at this
 ·cases this
 ·omega
theorem Dl.kind:Eb o.fold=0∧1≤o.fold∧o.fold≤4:=by
 have:=h.ok
 unfold Dp at this
 split at this
 ·cases this
 ·split at this
  ·cases this
  ·rename_i h2
   refine⟨?_,by omega⟩
   unfold Eb
   rw [if_neg h2]
theorem Dl.Aeg:1≤o.slices∧o.slices≤4:=by
 have:=h.ok
 unfold Dp at this
 split at this
 ·cases this
 ·split at this
  ·cases this
  ·split at this
   ·cases this
   ·omega
theorem Dl.rules:∀ r∈o.rs,Gv r:=by
 have:=h.ok
 unfold Dp at this
 split at this
 ·cases this
 ·split at this
  ·cases this
  ·split at this
   ·cases this
   ·exact fun r hr=> Gv.of (N5 this r hr)
theorem Dl.Anu:Ng (A9 o.rs o.fold o.lines):=Zz h.many.2 h.rules (by have:=h.lines;omega) (fun l hl=> by have:=h.short l hl;omega)
theorem Dl.Aod (i n:Nat):Ng (A9 o.rs o.fold ((Ao o i).take n)):=Zz h.many.2 h.rules (by rw [List.length_take,Cn];unfold G7;have:=h.lines;simp;omega) (fun l hl=> by have:=h.short l (Hu (List.mem_of_mem_take hl));omega)
theorem Dl.Ajm (i n:Nat):(Cl (A9 o.rs o.fold ((Ao o i).take n))).length≤9000000:=by
 have h1:=L5 (A9 o.rs o.fold ((Ao o i).take n)) fun p hp=> by
  have:=Ph h.rules o.fold (lines:=(Ao o i).take n) (fun l hl=> by have:=h.short l (Hu (List.mem_of_mem_take hl));omega) p hp
  omega
 have h2:=I4 o.rs o.fold h.many.2 ((Ao o i).take n) (fun l hl=> by have:=h.short l (Hu (List.mem_of_mem_take hl));omega)
 rw [List.length_take,Cn] at h2
 unfold G7 at h2
 have:=h.lines
 simp at h2
 omega
theorem Dl.Xx (k:Nat):Ng (B8 o k):=by
 unfold B8
 refine X7 (Ajq ?_)
 rw [Jn h.size.1]
 exact h.Anu
theorem Dl.Ld {k:Nat} (hk:k < o.slices):Ae o.fold (B8 o k)=U4 o.rs o.fold o.slices o.lines k:=by
 unfold B8
 rw [Agc hk,Jn h.size.1]
theorem Dl.Aei (k:Nat):(given o.rs o.fold o.early o.slices (chunks o) k).flatten.length≤60800:=by
 unfold given
 have h1:=Jg (f:=fun c=> Nk o.fold o.early o.slices (A9 o.rs o.fold c) k) (g:=fun c=> A9 o.rs o.fold c) (fun c=> Xd _ _ _ _ _) (chunks o)
 rw [←Hs,Jn h.size.1] at h1
 have h2:=I4 o.rs o.fold h.many.2 o.lines (fun l hl=> by have:=h.short l hl;omega)
 have:=h.lines
 omega
theorem Dl.Alo (k:Nat):∀ p∈B8 o k,p.1.size≤60∧ -9223372036854775808≤p.2∧p.2≤9223372036854775807:=by
 intro p hp
 unfold B8 at hp
 have hp:=Pd.1 hp
 obtain⟨l,hl,hpl⟩:=List.mem_flatten.1 hp
 unfold given at hl
 obtain⟨c,hc,rfl⟩:=List.mem_map.1 hl
 have hcl:∀ x∈c,x.size≤500:=fun x hx=> by
  have:x∈(chunks o).flatten:=List.mem_flatten.2 ⟨c,hc,hx⟩
  rw [Jn h.size.1] at this
  have:=h.short x this
  omega
 have hm:=fun q (hq:q∈A9 o.rs o.fold c)=> Ph h.rules o.fold hcl q hq
 unfold Nk at hpl
 split at hpl
 ·have:=Od o.fold (fun p=> p.1.size≤60∧ -9223372036854775808≤p.2∧p.2≤9223372036854775807) (fun q p hq hp _=> ⟨hq.1,Adm o.fold q.2 p.2 hq.2 hp.2⟩) (Dq ((A9 o.rs o.fold c).filter (Bf o.slices k))) (fun q hq=> by
   have:=hm q (List.mem_filter.1 (Pd.1 hq)).1
   exact⟨by omega,this.2⟩)
  exact this p hpl
 ·have:=hm p (List.mem_filter.1 (Pd.1 hpl)).1
  exact⟨by omega,this.2⟩
theorem Dl.Te (k c:Nat):(Cl ((Ae o.fold (B8 o k)).take c)).length≤9000000:=
 Aa3 o.fold (by unfold B8;rw [E6];exact h.Aei k) (h.Alo k) c
theorem Dl.Aaq:o.parts.length=(o.lines.length+o.size - 1) / o.size:=h.len false
theorem Dl.Ln:o.parts.length≤60:=by
 rw [h.Aaq]
 have h1:=h.lines
 have h2:=h.size.1
 have:(o.lines.length+o.size - 1) / o.size≤o.lines.length:=by
  rcases Nat.eq_zero_or_pos o.lines.length with h0 | h0
  ·rw [h0,Nat.zero_add]
   rw [Nat.div_eq_of_lt (by omega)]
   exact Nat.le_refl _
  ·refine Nat.div_le_of_le_mul ?_
   have:o.size * o.lines.length ≥ o.size+o.lines.length - 1:=by
    obtain⟨a,ha⟩:∃ a,o.size=a+1:=⟨o.size - 1,by omega⟩
    obtain⟨b,hb⟩:∃ b,o.lines.length=b+1:=⟨o.lines.length - 1,by omega⟩
    rw [ha,hb,Nat.mul_add,Nat.add_mul]
    have:=Nat.zero_le (a * b)
    omega
   omega
 omega
theorem Dl.M4:o.Cc.length=o.slices:=h.len true
end
end Go.Proofs.YtbibeionenjmfaaGreatDoor
namespace Go.Proofs.YtbibeionenjmfaaGreatDoor
open Go.RowKit
theorem Hl {α:Type} {l:List α} {i:Nat} {x:α} (f:α→α) (h:l[i]?=some x):l.modify i f=l.set i (f x):=by
 apply List.ext_getElem?
 intro j
 rw [get_modify]
 by_cases hj:i=j
 ·subst hj
  rw [if_pos rfl,h,List.getElem?_set_self (List.getElem?_eq_some_iff.1 h).1];rfl
 ·rw [if_neg hj,List.getElem?_set_ne hj]
theorem Su {α β:Type} (g:α→β) (f:α→α) {l:List α} {i:Nat} {x:α} (h:l[i]?=some x):(l.modify i f).map g=(l.map g).set i (g (f x)):=by
 rw [Hl f h,List.map_set]
theorem Qe {o:Bg} {fold:Bool} {i:Nat} {p:As} (f:As→As) (hp:(Er o fold)[i]?=some p):
 (A1 o fold i f).parts.map Jy=Lr fold (o.parts.map Jy) i (Jy (f p))∧(A1 o fold i f).Cc.map Jy=Hy fold (o.Cc.map Jy) i (Jy (f p)):=by
 unfold A1 Er Lr Hy at *
 cases fold
 ·simp only [Bool.false_eq_true,if_false] at hp ⊢
  exact⟨Su Jy f hp,trivial⟩
 ·simp only [if_true] at hp ⊢
  exact⟨trivial,Su Jy f hp⟩
theorem Akg (o:Bg) (fold:Bool):Jm fold (o.parts.map Jy) (o.Cc.map Jy)=(Er o fold).map Jy:=by
 unfold Jm Er;cases fold <;> rfl
theorem Lc (o:Bg) (fold go:Bool) (i j:Nat) (f:As→As):(Er (A1 o fold i f) go)[j]?=if go=fold∧j=i then((Er o go)[j]?).map f else(Er o go)[j]?:=by
 rw [Og]
 by_cases hg:fold=go
 ·subst hg
  rw [if_pos rfl,get_modify]
  by_cases hj:i=j
  ·subst hj
   rw [if_pos rfl,if_pos ⟨rfl,rfl⟩]
  ·rw [if_neg hj,if_neg (fun e=> hj e.2.symm)]
 ·rw [if_neg hg,if_neg (fun e=> hg e.1.symm)]
section
variable {w0 w w':World} {own:Nat→Eu} {G:Bb} {F F':Ad} {T:Nat→Prop} {n:Nat} {g:El} {o o':Bg}
theorem Bv.Acj (h:Bv w0 w own G F) (k:Ab T w w') (hT:∀ q,T q→own q= .Lz n∨own q= .parts n∨own q= .outs n∨own q= .saved n) (hg:G.jg[n]?=some g) (ho:F.Aj[n]?=some o) (hc:Es w0 w' own n g o') (eo:Ej o o')
 (e1:F'.Al=F.Al) (e2:F'.Ap=F.Ap) (e3:F'.log=F.log) (e4:F'.Aj=F.Aj.set n o'):Bv w0 w' own G F':=by
 have:=h.job k hT hg ho hc (V2.refl g) eo e1 e2 e3 e4
 rw [M1 hg] at this
 exact this
theorem Es.An2 {fold:Bool} {i:Nat} {p:As} (f:As→As) (h:Es w0 w own n g o) (hp:(Er o fold)[i]?=some p) (k:Ab T w w') (hT:∀ q,T q→own q= .Lz n)
 (rt':RT w' w0.heap.size g.tb g.pb g.sb (Lr fold (o.parts.map Jy) i (Jy (f p))) (Hy fold (o.Cc.map Jy) i (Jy (f p)))) (hst:(f p).st=2→p.st=2) (hsv:(f p).saved=p.saved):Es w0 w' own n g (A1 o fold i f):=by
 have hs:=Ej.A1 o fold i f
 obtain⟨e1,e2⟩:=Qe f hp
 have hst2:∀ go (j:Nat) p',(Er (A1 o fold i f) go)[j]?=some p'→∃ p0,(Er o go)[j]?=some p0∧(p'.st=2→p0.st=2)∧p'.saved=p0.saved:=fun go j p' hj=> by
  rw [Lc] at hj
  split at hj
  ·rename_i hc
   obtain⟨rfl,rfl⟩:=hc
   rw [hp] at hj
   cases hj
   exact⟨p,hp,hst,hsv⟩
  ·exact⟨p',hj,id,rfl⟩
 refine⟨(h.hd.kept k fun q hq=> by rw [hT q hq];simp).to hs,⟨by rw [e1,e2];exact rt',h.tk.ot⟩,(h.pt.kept k fun q hq=> by rw [hT q hq];simp).to hs ?_ fun j p' hj h2=> ?_,(h.os.kept k fun q hq=> by rw [hT q hq];simp).to hs fun j p' hj h2=> ?_,(h.sv.kept k fun q hq=> by rw [hT q hq];simp).to hs fun go j p' hj=> ?_⟩
 ·have:=congrArg List.length e1
  rw [List.length_map] at this
  rw [this]
  unfold Lr
  split <;> simp
 ·obtain⟨p0,h1,h3,_⟩:=hst2 false j p' hj
  exact⟨p0,h1,h3 h2⟩
 ·obtain⟨p0,h1,h3,_⟩:=hst2 true j p' hj
  exact⟨p0,h1,h3 h2⟩
 ·obtain⟨p0,h1,_,h4⟩:=hst2 go j p' hj
  exact⟨p0,h1,h4⟩
theorem Es.tag (h:Es w0 w own n g o) (fold:Bool):own (Jz fold g.pb g.sb)= .Lz n:=by
 unfold Jz;cases fold
 ·exact h.tk.ot.2.1
 ·exact h.tk.ot.2.2
theorem Adz {fold:Bool} {i:Nat} {p:As} (hp:(Er o fold)[i]?=some p):(Jm fold (o.parts.map Jy) (o.Cc.map Jy))[i]?=some (p.st,p.wh):=by
 rw [Akg,List.getElem?_map,hp];rfl
theorem Bv.An2 {fold:Bool} {i:Nat} {p:As} (f:As→As) (h:Bv w0 w own G F) (hg:G.jg[n]?=some g) (ho:F.Aj[n]?=some o) (hp:(Er o fold)[i]?=some p) (k:Ab T w w') (hT:∀ q,T q→own q= .Lz n)
 (rt':RT w' w0.heap.size g.tb g.pb g.sb (Lr fold (o.parts.map Jy) i (Jy (f p))) (Hy fold (o.Cc.map Jy) i (Jy (f p)))) (hst:(f p).st=2→p.st=2) (hsv:(f p).saved=p.saved):Bv w0 w' own G (setOf F (n,fold,i) f):=
 h.Acj k (fun q hq=> .inl (hT q hq)) hg ho ((h.js n g o hg ho).An2 f hp k hT rt' hst hsv) (Ej.A1 o fold i f) rfl rfl rfl (Hl _ ho)
theorem R4 {fold:Bool} {i:Nat} {p:As} (h:Bv w0 w own G F) (hg:G.jg[n]?=some g) (ho:F.Aj[n]?=some o) (hp:(Er o fold)[i]?=some p) (hm:Kk fold p.st (o.parts.map Jy)=true):
 Calls Tryz.prog 72 #[.pointer (some ⟨g.tb,0,none⟩), .bool fold, .int .i64 i] w fun e w'=> e= .returned .nilIface∧Ab (fun q=> own q= .Lz n) w w'∧Bv w0 w' own G (setOf F (n,fold,i) fun p=> {p with st:=1}):=by
 have hc:=h.js n g o hg ho
 refine(Agb hc.tk.rt (Adz hp) hm).mono ?_
 rintro e w' ⟨rfl,k,hrt⟩
 have k':=k.mono (T:=fun q=> own q= .Lz n) fun q hq=> hq ▸ hc.tag fold
 exact⟨rfl,k',h.An2 (fun p=> {p with st:=1}) hg ho hp k' (fun q hq=> hq) hrt (fun e=> by cases e) rfl⟩
end
end Go.Proofs.YtbibeionenjmfaaGreatDoor
namespace Go.Proofs.YtbibeionenjmfaaGreatDoor
open Go.RowKit
theorem Bk.s3 {w:World} {b:Nat} {a0 a1 a2:Value} (v0 v1 v2:Value) (h:Bk w b [a0,a1,a2]):Bk (((w.setCell ⟨b,0,none⟩ v0).setCell ⟨b,1,none⟩ v1).setCell ⟨b,2,none⟩ v2) b [v0,v1,v2]:=
 ((h.set (k:=0) (u:=a0) v0 rfl).set (k:=1) (u:=a1) v1 rfl).set (k:=2) (u:=a2) v2 rfl
theorem Hz {w W:World} {b B:Nat} (v0 v1 v2:Value) (h:Below B w W) (hB:B≤b):Below B w (((W.setCell ⟨b,0,none⟩ v0).setCell ⟨b,1,none⟩ v1).setCell ⟨b,2,none⟩ v2):=
 ((h.setCell (p:=⟨b,0,none⟩) hB _).setCell (p:=⟨b,1,none⟩) hB _).setCell (p:=⟨b,2,none⟩) hB _
theorem Bk.s6 {w:World} {b:Nat} {a0 a1 a2 a3 a4 a5:Value} (v0 v1 v2 v3 v4 v5:Value) (h:Bk w b [a0,a1,a2,a3,a4,a5]):Bk ((((((w.setCell ⟨b,0,none⟩ v0).setCell ⟨b,1,none⟩ v1).setCell ⟨b,2,none⟩ v2).setCell ⟨b,3,none⟩ v3).setCell ⟨b,4,none⟩ v4).setCell ⟨b,5,none⟩ v5) b [v0,v1,v2,v3,v4,v5]:=
 (((((h.set (k:=0) (u:=a0) v0 rfl).set (k:=1) (u:=a1) v1 rfl).set (k:=2) (u:=a2) v2 rfl).set (k:=3) (u:=a3) v3 rfl).set (k:=4) (u:=a4) v4 rfl).set (k:=5) (u:=a5) v5 rfl
theorem Tf {w W:World} {b B:Nat} (v0 v1 v2 v3 v4 v5:Value) (h:Below B w W) (hB:B≤b):Below B w ((((((W.setCell ⟨b,0,none⟩ v0).setCell ⟨b,1,none⟩ v1).setCell ⟨b,2,none⟩ v2).setCell ⟨b,3,none⟩ v3).setCell ⟨b,4,none⟩ v4).setCell ⟨b,5,none⟩ v5):=
 (((((h.setCell (p:=⟨b,0,none⟩) hB _).setCell (p:=⟨b,1,none⟩) hB _).setCell (p:=⟨b,2,none⟩) hB _).setCell (p:=⟨b,3,none⟩) hB _).setCell (p:=⟨b,4,none⟩) hB _).setCell (p:=⟨b,5,none⟩) hB _
section
variable {w0 w w':World} {own:Nat→Eu} {G:Bb} {F F':Ad}
theorem Bv.Y3 (h:Bv w0 w own G F):∃ ao cap,G.jv= .slice ao F.Aj.length cap∧Sl 1 On w ao (G.jg.map El.xb)∧(ao=none→cap=0):=by
 obtain⟨ao,cap,e⟩:=h.jo.1
 rw [List.length_map,h.jn] at e
 have ho:=h.jo
 rw [e] at ho
 have hl:(G.jg.map El.xb).length=F.Aj.length:=by rw [List.length_map];exact h.jn
 rw [←hl] at ho
 exact⟨ao,cap,e,ho.sl Oc,ho.Uu⟩
theorem Bv.T4 (h:Bv w0 w own G F) {n:Nat} {o:Bg} (ho:F.Aj[n]?=some o):∃ g gb cap,G.jg[n]?=some g∧G.jv= .slice (some ⟨gb,0,none⟩) F.Aj.length cap∧w.cell? ⟨gb,n,none⟩=some (.pointer (some ⟨g.xb,0,none⟩))∧Es w0 w own n g o∧own gb= .Aj:=by
 have hl:=(List.getElem?_eq_some_iff.1 ho).1
 have hlg:n < G.jg.length:=by rw [h.jn];exact hl
 have hg:G.jg[n]?=some G.jg[n]:=List.getElem?_eq_getElem hlg
 obtain⟨ao,cap,e,hs,_⟩:=h.Y3
 have h0:0 < (G.jg.map El.xb).length:=by rw [List.length_map];omega
 obtain⟨gb,cap',e2,_,_,hc,_⟩:=h.jo.addr h0
 rw [e] at e2
 injection e2 with a1 a2 a3
 subst a1
 have hcell:w.cell? ⟨gb,n,none⟩=some (.pointer (some ⟨(G.jg[n]).xb,0,none⟩)):=by
  have hx:(G.jg.map El.xb)[n]?=some (G.jg[n]).xb:=by rw [List.getElem?_map,hg];rfl
  have h1:=Hx Oc hx (j:=0) rfl
  rcases hc n with h2 | h2
  ·rw [h2];simpa using h1
  ·rw [List.length_map] at h2;omega
 exact⟨_,gb,cap,hg,e,hcell,h.js n _ o hg ho,h.oj gb (by rw [e];rfl)⟩
theorem Bv.lt (h:Bv w0 w own G F) {q:Nat} (hq:own q≠ .out):q < w.heap.size:=(h.lo q hq).2
theorem Bv.later (h:Bv w0 w own G F) (hb:Below w.heap.size w w'):Bv w0 w' own G F:=h.Acp (Ab.Ag (S:=fun _=> False) hb (Nat.le_refl _)) fun q hq=> hq.elim
theorem Afl (h:Bv w0 w own G F):Calls Tryz.prog 39 #[.pointer (some ⟨G.fb,0,none⟩)] w fun e w'=> e= .returned (.int .i64 F.Aj.length)∧Below w.heap.size w w':=by
 obtain⟨ao,cap,e,_⟩:=h.Y3
 have c3:=h.bk.get (j:=3) rfl
 rw [e] at c3
 clear h e
 go_enter Tryz.func39,Tryz.ntmps39
 go_wp2
 go_ret
 exact⟨rfl,Below.refl _ _⟩
theorem Ae9 (l:List As):Se (l.map Jy)=Gb l:=by
 unfold Se Gb
 rw [List.filter_map,List.length_map]
 rfl
theorem Jw (l:List As):Fp (l.map Jy)=decide (Gb l=l.length):=by
 unfold Fp
 rw [Ae9,List.length_map]
def Jl (o:Bg):Value:= .agg #[.int .i64 o.queue, .int .i64 o.parts.length, .int .i64 (Gb o.parts:Nat), .int .i64 o.slices, .int .i64 (Gb o.Cc:Nat), .bool (decide (Gb o.Cc=o.Cc.length))]
def T7:Value:= .agg #[.int .i64 0, .int .i64 0, .int .i64 0, .int .i64 0, .int .i64 0, .bool false]
theorem Es.X5 {n:Nat} {g:El} {o:Bg} (h:Es w0 w own n g o):∃ ao cap,g.pv= .slice ao o.parts.length cap∧Sl 2 Eo w ao g.pl∧(ao=none→cap=0):=by
 obtain⟨ao,cap,e⟩:=h.pt.po.1
 have ho:=h.pt.po
 rw [e] at ho
 exact⟨ao,cap,by rw [e,h.pt.pn],ho.sl Jq,ho.Uu⟩
end
end Go.Proofs.YtbibeionenjmfaaGreatDoor
namespace Go.Proofs.YtbibeionenjmfaaGreatDoor
open Go.RowKit
theorem Alh (l:List Int) (k:Nat):bump l (k:Int)=Akf l k:=by
 unfold bump Akf
 by_cases h:k < l.length
 ·rw [if_pos ⟨by omega,by omega⟩,Int.toNat_natCast]
 ·rw [if_neg (by omega),List.set_eq_of_length_le (by omega)]
theorem count_eq (F:Ad):Nv (fun j=> (Lj F j.toNat:Int)) F.Al.length (F.Ap.map (·.map D5))=Mm F:=by
 unfold Nv Mm
 have:(F.Ap.map (·.map D5)).flatten=F.Ap.flatten.map D5:=(List.map_flatten ..).symm
 rw [this,List.foldl_map]
 congr 1
 funext l a
 unfold E9 D5
 dsimp only
 rw [Int.toNat_natCast,Alh]
theorem Xo (l:List As):Sg l=decide (Gb l=l.length):=by
 unfold Sg Gb
 rw [Bool.eq_iff_iff,decide_eq_true_eq,List.all_eq_true,List.length_filter_eq_length_iff]
def Aa1 (r:Option (Bool×Nat)):Bool×Int×Bool:=match r with
 | some (f,i)=> (f,(i:Int),true)
 | none=> (false,0,false)
theorem V7 (l:List As):Ef (l.map Jy)=match l.findIdx? (fun p=> p.st ==0) with
 | some i=> (i:Int)
 | none=> -1:=by
 unfold Ef
 rw [List.findIdx?_map]
 have:((fun x:Int×Int=> x.1 ==0) ∘ Jy)=fun p=> p.st ==0:=rfl
 rw [this]
 cases l.findIdx? (fun p=> p.st ==0) <;> rfl
theorem Akj (o:Bg):O8 (o.parts.map Jy) (o.Cc.map Jy)=Aa1 (Ik o):=by
 unfold O8 Ik
 rw [Jw,Jw,←Xo,←Xo,V7,V7]
 cases h1:Sg o.Cc <;> cases h2:o.parts.findIdx? (fun p=> p.st ==0) <;> cases h3:Sg o.parts <;> cases h4:o.Cc.findIdx? (fun p=> p.st ==0) <;> simp [Aa1]
 all_goals (intro hh;omega)
section
variable {w0 w w':World} {own:Nat→Eu} {G:Bb} {F F':Ad}
theorem Ah3 {n pb:Nat} {o:Bg} (h:Bv w0 w own G F) (hp:w.cell? ⟨pb,0,none⟩=some (.pointer (some ⟨G.fb,0,none⟩))) (ho:F.Aj[n]?=some o):
 Calls Tryz.prog 56 #[.int .i64 n, .pointer (some ⟨pb,0,none⟩)] w fun e w'=> e= .returned (.int .i64 o.queue)∧Below w.heap.size w w':=by
 obtain⟨g,gb,cap,hg,ej,cjn,hjc,_⟩:=h.T4 ho
 have hnl:=(List.getElem?_eq_some_iff.1 ho).1
 have cj:=h.bk.get (j:=3) rfl
 rw [ej] at cj
 have x0:=hjc.hd.bk.get (j:=0) rfl
 have f1:(n:Int) < (F.Aj.length:Int):=by omega
 generalize F.Aj.length=m at *
 clear h hjc ej ho hg
 go_enter Tryz.func56,Tryz.ntmps56
 go_wp2
 go_ret
 exact⟨rfl,Below.refl _ _⟩
set_option maxRecDepth 100000 in
theorem Aif (h:Bv w0 w own G F) (hq:F.Al.length≤1000):Calls Tryz.prog 27 #[.pointer (some ⟨G.fb,0,none⟩)] w fun e w'=> ∃ ob,e= .returned (.slice (some ⟨ob,0,none⟩) F.Al.length F.Al.length)∧Below w.heap.size w w'∧Own 1 Fe 3 w' w.heap.size (.slice (some ⟨ob,0,none⟩) F.Al.length F.Al.length) (Mm F):=by
 obtain⟨W,hW⟩:∃ W,W=w.alloc (.cells #[.pointer (some ⟨G.fb,0,none⟩)] 23):=⟨_,rfl⟩
 have hb:Below w.heap.size w W:=by rw [hW];exact ba w _
 have hp:Bk W w.heap.size [.pointer (some ⟨G.fb,0,none⟩)]:=by rw [hW];exact Bk.new rfl
 have hW1:=h.later hb
 have HC:=Aa (fun nq=> Acu F.Al.length hq (fun j=> (Lj F j.toNat:Int)) w.heap.size (w:=W.drewN nq) (hW1.later (below_drewN (Below.refl _ _) nq)).bt (fun i j row s hr hs hon w' k=> by
  rw [List.getElem?_map] at hr
  obtain⟨row0,hr0,rfl⟩:=Option.map_eq_some_iff.1 hr
  rw [List.getElem?_map] at hs
  obtain⟨t,ht,rfl⟩:=Option.map_eq_some_iff.1 hs
  obtain⟨v,g,o,_,_,ho,_⟩:=h.rr i j t (by unfold Aw;rw [hr0];exact ht) hon
  have hk:Below W.heap.size W w':=(below_drewN (Below.refl _ _) nq).trans k
  have:=Ah3 (n:=t.t.1) (pb:=w.heap.size) (hW1.later hk) (cell_later hk (hp.get (j:=0) rfl)) ho
  have e:Lj F (t.t.1:Int).toNat=o.queue:=by rw [Int.toNat_natCast];unfold Lj;rw [ho];rfl
  show Calls _ _ #[.int .i64 (t.t.1:Int),_] _ fun e w''=> e= .returned (.int .i64 (Lj F (t.t.1:Int).toNat:Int))∧_
  rw [e]
  exact this))
 have c0:=hp.get (j:=0) rfl
 have c1:=cell_later hb (h.bk.get (j:=0) rfl)
 have c2:=cell_later hb (h.bk.get (j:=1) rfl)
 have HW:=Aa hW
 have HB:=Aa hb
 simp only [count_eq] at HC
 generalize Mm F=H at *
 clear h hW1 hp hb hW hq
 generalize F.Al.length=m at *
 go_enter Tryz.func27,Tryz.ntmps27
 go_upto_region 1 with (fail)
 rw [←HW.out]
 clear HW
 refine Bi 10 (by kernel_rfl) (by kernel_rfl) ?_
 simp only [List.take_succ_cons,List.take_zero,List.drop_succ_cons,List.drop_zero]
 repeat still_step
 refine wpStill_nil ?_
 go_wp2_with fail
 refine(HC.out 1).mono ?_
 rintro e w1 ⟨ob,rfl,b1,o1⟩
 have HB1:=Aa (HB.out.trans ((below_drewN (Below.refl _ _) 1).trans b1 |>.mono HB.out.size))
 have HO:=Aa (o1.Bo (b:=w.heap.size) HB.out.size)
 clear b1 o1 HC HB
 go_wp2
 go_ret
 exact⟨_,rfl,HB1.out,HO.out⟩
end
end Go.Proofs.YtbibeionenjmfaaGreatDoor
namespace Go.Proofs.YtbibeionenjmfaaGreatDoor
open Go.RowKit
theorem Aiq {J:List Bg} {q k:Nat} {o:Bg} (h:J[k]?=some o):De q k (J.drop k)=if o.queue=q then(match Ik o with
 | some (f,i)=> some (k,f,i)
 | none=> De q (k+1) (J.drop (k+1))) else De q (k+1) (J.drop (k+1)):=by
 rw [drop_cons h];rfl
def Rm (r:Option Eg):Value:=Cu (r.getD F4)
section
variable {w0 w w':World} {own:Nat→Eu} {G:Bb} {F F':Ad}
set_option maxHeartbeats 1000000 in
theorem Acs (q:Nat) (h:Bv w0 w own G F) (hj6:F.Aj.length≤6):Calls Tryz.prog 63 #[.pointer (some ⟨G.fb,0,none⟩), .int .i64 q] w fun e w'=> e= .returned (.tuple #[Rm (De q 0 F.Aj), .bool (De q 0 F.Aj).isSome])∧Below w.heap.size w w':=by
 obtain⟨W,hW⟩:∃ W,W=w.alloc (.cells #[.int .i64 0, .bool false, .int .i64 0] 33):=⟨_,rfl⟩
 have hb:Below w.heap.size w W:=by rw [hW];exact ba w _
 have ht:Bk W w.heap.size [.int .i64 0, .bool false, .int .i64 0]:=by rw [hW];exact Bk.new rfl
 have hW1:=h.later hb
 obtain⟨ao,cap,ej,_⟩:=hW1.Y3
 have cj:=hW1.bk.get (j:=3) rfl
 rw [ej] at cj
 have HJA:=Aa fun w' (k:Below W.heap.size W w') (n:Nat) o (ho:F.Aj[n]?=some o)=> (hW1.later k).T4 ho
 have HEJ:=Aa ej
 have HW:=Aa hW
 have HB0:=Aa hb
 have HT0:=Aa ht
 clear h hW hb ht hW1 ej
 go_enter Tryz.func63,Tryz.ntmps63
 go_upto_region 1 with (fail)
 rw [←HW.out]
 clear HW
 go_wp2
 go_loopw [16] (fun iv wr=> ∃ k:Nat,k≤F.Aj.length∧iv= .int .i64 k∧Hid (De q 0 F.Aj=De q k (F.Aj.drop k))∧Hid (Below W.heap.size W wr)) (fun iv _=> F.Aj.length - (intOf iv).toNat)
 case atStart=> exact⟨0,by omega,by go_num,(rfl:De q 0 F.Aj=De q 0 (F.Aj.drop 0)),Below.refl _ _⟩
 case round=>
  clear cj
  obtain⟨k,hk,rfl,HN,HBW⟩:=hrel
  have HB:=Aa (HB0.out.trans (HBW.out.mono HB0.out.size))
  have HT:=Aa (HT0.out.later HBW.out)
  by_cases hlt:k < F.Aj.length
  ·obtain⟨o,ho⟩:∃ o,F.Aj[k]?=some o:=⟨_,List.getElem?_eq_getElem hlt⟩
   obtain⟨g,gb,cap',hg,ej,cjn,hjc,_⟩:=HJA.out wr HBW.out k o ho
   rw [HEJ.out] at ej
   injection ej with a1 a2 a3
   subst a1
   have HNA:=Aa (Aiq (q:=q) ho)
   have x0:=hjc.hd.bk.get (j:=0) rfl
   have x5:=hjc.hd.bk.get (j:=5) rfl
   have HNX:=Aa (Ajk hjc.tk.rt)
   rw [Akj] at HNX
   have e1:decide (k < F.Aj.length)=true:=by simpa using hlt
   have f1:(k:Int) < (F.Aj.length:Int):=by omega
   clear hjc ho hg a2 a3
   generalize g.xb=xb at *
   generalize g.tb=tb at *
   obtain⟨qq,hqq⟩:∃ qq,qq=o.queue:=⟨_,rfl⟩
   rw [←hqq] at x0 HNA
   generalize Ik o=nj at *
   clear hqq
   by_cases hq:qq=q
   ·subst hq
    rw [if_pos rfl] at HNA
    cases nj with
    | some fi=>
      obtain⟨tf,ti⟩:=fi
      have HR:Hid (De qq 0 F.Aj=some (k,tf,ti)):=HN.out.trans HNA.out
      unfold Aa1 triple at HNX
      dsimp only at HNX
      clear HN HNA HJA
      go_wp2_with fail
      refine HNX.out.mono ?_
      rintro e w2 ⟨rfl,b2⟩
      replace HB:=Aa (HB.out.trans (b2.mono HB.out.size))
      replace HT:=Aa (HT.out.later b2)
      replace x0:=cell_later b2 x0
      clear b2 HNX x5 cjn
      have e2:(qq ==qq)=true:=by simp
      have e3:((qq:Int) ==(qq:Int))=true:=by simp
      clear f1
      have hk9:=HT.out.s3 (.int .i64 k) (.bool tf) (.int .i64 ti)
      have c0:=HT.out.get (j:=0) rfl
      have c1:=HT.out.get (j:=1) rfl
      have c2:=HT.out.get (j:=2) rfl
      have z0:=HT.out.fz 0
      have z1:=HT.out.fz 1
      have z2:=HT.out.fz 2
      have f0:=hk9.get (j:=0) rfl
      have f1:=hk9.get (j:=1) rfl
      have f2:=hk9.get (j:=2) rfl
      have y0:=hk9.fz 0
      have y1:=hk9.fz 1
      have y2:=hk9.fz 2
      have HB9:=Aa (Hz (.int .i64 k) (.bool tf) (.int .i64 ti) HB.out (Nat.le_refl w.heap.size))
      clear hk9
      go_wp2
      exact bodyPost_ret (v:= .tuple #[.agg #[.int .i64 k, .bool tf, .int .i64 ti], .bool true]) (by simp [results,Tryz.results63,go_sem,f0,f1,f2,y0,y1,y2]) rfl ⟨by rw [HR.out];rfl,HB9.out⟩
    | none=>
      have HR:Hid (De qq 0 F.Aj=De qq (k+1) (F.Aj.drop (k+1))):=HN.out.trans HNA.out
      unfold Aa1 triple at HNX
      dsimp only at HNX
      clear HN HNA
      go_wp2_with fail
      refine HNX.out.mono ?_
      rintro e w2 ⟨rfl,b2⟩
      replace x0:=cell_later b2 x0
      have HBN:=Aa (HBW.out.trans (b2.mono HBW.out.size))
      clear b2 HNX x5 cjn HBW HB HT
      have e2:(qq ==qq)=true:=by simp
      have e3:((qq:Int) ==(qq:Int))=true:=by simp
      go_wp2
      go_roundw
      case rel=> exact⟨k+1,by omega,by go_num,HR,HBN⟩
      case measure=> (simp [intOf];try omega)
   ·rw [if_neg hq] at HNA
    have HR:Hid (De q 0 F.Aj=De q (k+1) (F.Aj.drop (k+1))):=HN.out.trans HNA.out
    generalize Aa1 nj=tr at *
    obtain⟨t1,t2,t3⟩:=tr
    unfold triple at HNX
    dsimp only at HNX
    clear HN HNA
    go_wp2_with fail
    refine HNX.out.mono ?_
    rintro e w2 ⟨rfl,b2⟩
    replace x0:=cell_later b2 x0
    have HBN:=Aa (HBW.out.trans (b2.mono HBW.out.size))
    clear b2 HNX x5 cjn HBW HB HT
    have e2:(qq ==q)=false:=by simpa using hq
    have e3:((qq:Int) ==(q:Int))=false:=by simp;omega
    clear hq
    go_wp2
    go_roundw
    case rel=> exact⟨k+1,by omega,by go_num,HR,HBN⟩
    case measure=> (simp [intOf];try omega)
  ·obtain rfl:k=F.Aj.length:=by omega
   have HR:Hid (De q 0 F.Aj=none):=by
    have:=HN.out
    rw [List.drop_length] at this
    exact this
   have e1:decide (F.Aj.length < F.Aj.length)=false:=by simp
   clear HN HJA
   have hk9:=HT.out.s3 (.int .i64 0) (.bool false) (.int .i64 0)
   have c0:=HT.out.get (j:=0) rfl
   have c1:=HT.out.get (j:=1) rfl
   have c2:=HT.out.get (j:=2) rfl
   have z0:=HT.out.fz 0
   have z1:=HT.out.fz 1
   have z2:=HT.out.fz 2
   have f0:=hk9.get (j:=0) rfl
   have f1:=hk9.get (j:=1) rfl
   have f2:=hk9.get (j:=2) rfl
   have y0:=hk9.fz 0
   have y1:=hk9.fz 1
   have y2:=hk9.fz 2
   have HB9:=Aa (Hz (.int .i64 0) (.bool false) (.int .i64 0) HB.out (Nat.le_refl w.heap.size))
   clear hk9
   go_wp2
   exact bodyPost_ret (v:= .tuple #[.agg #[.int .i64 0, .bool false, .int .i64 0], .bool false]) (by simp [results,Tryz.results63,go_sem,f0,f1,f2,y0,y1,y2]) rfl ⟨by rw [HR.out];rfl,HB9.out⟩
end
end Go.Proofs.YtbibeionenjmfaaGreatDoor
namespace Go.Proofs.YtbibeionenjmfaaGreatDoor
open Go.RowKit
theorem Own.setBool {e:TypeId} {w:World} {base g n cap k:Nat} {l:List Bool} (h:Own 1 Ge e w base (.slice (some ⟨g,0,none⟩) n cap) l) (hk:k < l.length) (v:Bool):Own 1 Ge e (w.setCell ⟨g,k,none⟩ (.bool v)) base (.slice (some ⟨g,0,none⟩) n cap) (l.set k v):=by
 obtain rfl:=h.len
 have:=Own.set (j:=0) (u:= .bool v) (y:=v) Dn h (List.getElem?_eq_getElem hk) (by omega) rfl
 simpa using this
theorem Own.An1 {e:TypeId} {w:World} {base g n cap k:Nat} {l:List Bool} (h:Own 1 Ge e w base (.slice (some ⟨g,0,none⟩) n cap) l) (hk:k < l.length):w.cell? ⟨g,k,none⟩=some (.bool (l.getD k false)):=by
 have:=h.cellAt (i:=k) (j:=0) (x:=l[k]) Dn (List.getElem?_eq_getElem hk) rfl
 rw [List.getD_eq_getElem?_getD,List.getElem?_eq_getElem hk]
 simpa using this
theorem Qy (F:Ad):(Mm F).length=F.Al.length:=by rw [←count_eq];unfold Nv;rw [Aay];simp
theorem Hk (F:Ad):(E3 F).length=F.Al.length:=by unfold E3;simp
theorem Af1:(Tryz.prog.info? 4).map (fun i=> (i.zero,i.size,i.bytes))=some (some (.bool false),1,1):=by kernel_rfl
def Gc (F:Ad) (k:Nat):List Bool:=(E3 F).take k++List.replicate (F.Al.length - k) false
theorem Zj (F:Ad) {k:Nat} (hk:k≤F.Al.length):(Gc F k).length=F.Al.length:=by
 unfold Gc;rw [List.length_append,List.length_take,Hk,List.length_replicate];omega
theorem Yd (F:Ad):Gc F 0=List.replicate F.Al.length false:=by unfold Gc;simp
theorem Abk (F:Ad):Gc F F.Al.length=E3 F:=by
 unfold Gc
 rw [Nat.sub_self,List.replicate_zero,List.append_nil,List.take_of_length_le (by rw [Hk];exact Nat.le_refl _)]
theorem Yc (F:Ad) {k:Nat} (hk:k < F.Al.length):Gc F (k+1)=(Gc F k).set k (De k 0 F.Aj).isSome:=by
 have hw:(E3 F)[k]?=some (De k 0 F.Aj).isSome:=by unfold E3;simp [hk]
 have hl:k < (E3 F).length:=by rw [Hk];exact hk
 unfold Gc
 have hx:(E3 F)[k]=(De k 0 F.Aj).isSome:=by
  rw [List.getElem?_eq_getElem hl] at hw;exact Option.some.inj hw
 have e:F.Al.length - k=(F.Al.length - (k+1))+1:=by omega
 rw [List.take_succ_eq_append_getElem hl,hx,e,List.replicate_succ,List.set_append_right _ _ (by rw [List.length_take];omega),List.length_take,Nat.min_eq_left (by omega),Nat.sub_self,List.set_cons_zero,List.append_assoc]
 rfl
section
variable {w0 w w':World} {own:Nat→Eu} {G:Bb} {F F':Ad}
theorem Ama (h:Bv w0 w own G F):∀ n∈Mm F,0≤n∧n≤1000:=by
 intro n hn
 rw [←count_eq] at hn
 unfold Nv at hn
 have h1:=Aew (fun j=> (Lj F j.toNat:Int)) (F.Ap.map (·.map D5)).flatten (List.replicate F.Al.length 0) 0 (fun x hx=> by rw [(List.mem_replicate.1 hx).2];omega) n hn
 have h2:=Aea h.bt.Akb
 have h3:=h.bt.lt
 have h4:=h.bt.lr
 omega
theorem Aeo {l:List (Int×Int)} (h:Fx l=0):(1≤l.length∧l.length≤4)∧∀ q∈l,1≤q.1∧q.1≤9∧0≤q.2:=by
 unfold Fx at h
 split at h
 ·cases h
 ·rename_i h1
  split at h
  ·cases h
  ·rename_i h2
   refine⟨by omega,fun q hq=> ?_⟩
   have h3:Sd q=false:=by
    cases hb:Sd q
    ·rfl
    ·exact absurd (List.any_eq_true.2 ⟨q,hq,hb⟩) h2
   unfold Sd at h3
   simp at h3
   omega
set_option maxHeartbeats 2000000 in
theorem Ahg (h:Bv w0 w own G F) (hi:Fz F):Calls Tryz.prog 35 #[.pointer (some ⟨G.fb,0,none⟩)] w fun e w'=> e= .returned (.tuple #[Rm (Ig F), .bool (Ig F).isSome])∧Below w.heap.size w w':=by
 obtain⟨i0,hi0,hz0,hz1,hz2⟩:=info_parts Af1
 obtain⟨hq1,hq2⟩:=Aeo hi.qs
 have hj6:=hi.jl
 have hn4:F.Al.length≤4:=hq1.2
 have HWN:=Aa (Hk F)
 have hmp:∀ w:World,(Instr.makeSlice 63 (.int .i64 F.Al.length) (.int .i64 F.Al.length)).run Tryz.prog w= .ok (.slice (some ⟨w.heap.size,0,none⟩) F.Al.length F.Al.length) (w.alloc (.cells (madeCells #[.bool false] F.Al.length) 4)):=by
  intro w
  have:=run_makeSlice (P:=Tryz.prog) w 63 4 i0 (.bool false) Tryz.underlying63 hi0 hz0 .i64 .i64 F.Al.length F.Al.length (by omega) (by omega) (by rw [hz1];omega) (by rw [hz2];omega) (by omega)
  rw [hz1] at this;simpa [Value.cells] using this
 obtain⟨W,hW⟩:∃ W,W=w.alloc (.cells #[.int .i64 0, .bool false, .int .i64 0] 33):=⟨_,rfl⟩
 obtain⟨W1,hW1⟩:∃ W1,W1=W.alloc (.cells (madeCells #[.bool false] F.Al.length) 4):=⟨_,rfl⟩
 have hb:Below w.heap.size w W:=by rw [hW];exact ba w _
 have hsz:W.heap.size=w.heap.size+1:=by rw [hW];simp
 have hb1:Below w.heap.size w W1:=by rw [hW1];exact hb.alloc hb.size _
 have ht:Bk W1 w.heap.size [.int .i64 0, .bool false, .int .i64 0]:=by rw [hW1,hW];exact(Bk.new rfl).alloc _
 have hown:Own 1 Ge 4 W1 (w.heap.size+1) (.slice (some ⟨W.heap.size,0,none⟩) F.Al.length F.Al.length) (Gc F 0):=by
  rw [Yd,hW1]
  have:=Own.lit (base:=w.heap.size+1) (l:=List.replicate F.Al.length false) (enc:=Ge) (sz:=1) (e:=4) Dn (Bt W (.cells (madeCells #[.bool false] F.Al.length) 4)) (by omega) (by have:=Ek Dn (.bool false) false rfl F.Al.length rfl;simpa [Value.cells] using this) (by simp;unfold maxLen;omega)
  simpa using this
 have HFI:=Aa fun w' (k:Below w.heap.size w w') (q:Nat)=> Acs q (h.later k) hj6
 have HHA:=Aa fun w' (k:Below w.heap.size w w')=> Aif (h.later k) (by omega)
 have HPI:=Aa fun(w':World) (k:Below w.heap.size w w') (ob wb:Nat) (ho:Sl 1 Fe w' (some ⟨ob,0,none⟩) (Mm F)) (hw:Sl 1 Ge w' (some ⟨wb,0,none⟩) (E3 F))=> Ai8 G.qa (some ⟨ob,0,none⟩) (some ⟨wb,0,none⟩) G.qc F.Al.length F.Al.length F.Al (Mm F) (E3 F) w' (by omega) (by rw [Qy];omega) (by rw [Hk];omega) (h.later k).qs ho hw (fun q hq=> by have:=hq2 q hq;omega) (Ama h)
 simp only [Qy,Hk] at HPI
 have HK:=Aa fun w' (k:Below w.heap.size w w')=> cell_later k (h.bk.get (j:=0) rfl)
 have HHL:=Aa (Qy F)
 have HNM:Hid (Ig F=if Ca F.Al (Mm F) (E3 F) F.Al.length < 0 then none else De (Ca F.Al (Mm F) (E3 F) F.Al.length).toNat 0 F.Aj):=rfl
 have HWL:=Aa fun(k:Nat) (hk:k≤F.Al.length)=> Zj F hk
 have HWS:=Aa fun(k:Nat) (hk:k < F.Al.length)=> Yc F hk
 have HWE:=Aa (Abk F)
 have c0:=cell_later hb (h.bk.get (j:=0) rfl)
 have c0':=cell_later hb1 (h.bk.get (j:=0) rfl)
 have HW:=Aa hW
 have HW1:=Aa hW1
 have HB0:=Aa hb1
 have HT0:=Aa ht
 have HO0:=Aa hown
 have HSZ:=Aa hsz
 clear h hi hq1 hq2 hi0 hz0 hz1 hz2 hW hW1 hb hb1 ht hown hsz hj6
 generalize Ca F.Al (Mm F) (E3 F) F.Al.length=pk at *
 generalize hnq:F.Al.length=nq at *
 have HNQ:=Aa hnq
 clear hnq
 go_enter Tryz.func35,Tryz.ntmps35
 go_upto_region 1 with (fail)
 rw [←HW.out]
 clear c0'
 go_upto_region 2 with (fail)
 rw [←HW1.out]
 rw [HSZ.out] at HO0 ⊢
 have c0':=HK.out W1 HB0.out
 clear HW HW1 c0 hmp
 go_wp2
 go_loopw [18] (fun iv wr=> ∃ k:Nat,k≤nq∧iv= .int .i64 k∧Hid (Own 1 Ge 4 wr (w.heap.size+1) (.slice (some ⟨w.heap.size+1,0,none⟩) nq nq) (Gc F k))∧Hid (Below w.heap.size w wr)∧Hid (Bk wr w.heap.size [.int .i64 0, .bool false, .int .i64 0])) (fun iv _=> nq - (intOf iv).toNat)
 case atStart=> exact⟨0,by omega,by go_num,HO0,HB0,HT0⟩
 case round=>
  clear c0' HO0 HB0 HT0
  obtain⟨k,hk,rfl,HO,HB,HT⟩:=hrel
  by_cases hlt:k < nq
  ·have HF:=Aa (HFI.out wr HB.out k)
   have HS:=Aa (HWS.out k hlt)
   generalize De k 0 F.Aj=nq1 at *
   generalize Rm nq1=tv at *
   generalize nq1.isSome=bv at *
   go_wp2_with fail
   refine HF.out.mono ?_
   rintro e w2 ⟨rfl,b2⟩
   have hlw:=HWL.out k (by omega)
   have how:=HO.out.later b2
   have hset:=how.setBool (k:=k) (by rw [hlw];exact hlt) bv
   rw [←HS.out] at hset
   have HSET:=Aa hset
   have q0:=how.An1 (k:=k) (by rw [hlw];exact hlt)
   have z0:=how.frozenAt k
   have HBN:=Aa ((HB.out.trans (b2.mono HB.out.size)).setCell (p:=⟨w.heap.size+1,k,none⟩) (by show w.heap.size≤w.heap.size+1;omega) (.bool bv))
   have HTN:=Aa ((HT.out.later b2).Gt (p:=⟨w.heap.size+1,k,none⟩) (by show ¬ w.heap.size+1=w.heap.size;omega) (.bool bv))
   have e1:decide (k < nq)=true:=by simpa using hlt
   have f1:(k:Int) < (nq:Int):=by omega
   clear hset how hlw b2 HO HB HT HS HF
   generalize (Gc F k).getD k false=qv at *
   go_wp2
   go_roundw
   case rel=> exact⟨k+1,by omega,by go_num,HSET,HBN,HTN⟩
   case measure=> (simp [intOf];try omega)
  ·obtain rfl:k=nq:=by omega
   have c0:=HK.out wr HB.out
   have HO2:=HO.out
   rw [HWE.out] at HO2
   have HSW:Hid (Sl 1 Ge wr (some ⟨w.heap.size+1,0,none⟩) (E3 F)):=by
    rw [←HWN.out] at HO2
    exact HO2.sl Dn
   clear HO2 HO
   have e1:decide (k < k)=false:=by simp
   go_upto_region 7 with (fail)
   refine wp_region_noPanic ?_
   refine Ah (S:=(fun w'=> Below wr.heap.size wr w')) (E:= [8]) (by kernel_rfl) ?_ (fun hHeld=> ?_)
   ·(first | exact(Below.refl _ _).drew | exact hHeld.trans (b2.mono hHeld.size) | exact hHeld.trans (b1.mono hHeld.size) | exact hHeld)
   try dsimp only [List.size_toArray,List.length_cons,List.length_nil,Nat.reduceAdd]
   refine hP 0 (v:=?_) rfl (by kernel_rfl) (by rfl) ?_ ?_
   rotate_left
   focus (intro w;go_simp;try with_reducible rfl)
   refine hP 4 (v:=?_) rfl (by kernel_rfl) (by rfl) ?_ ?_
   rotate_left
   focus (intro w;go_simp;try with_reducible rfl)
   refine hP 6 (v:=?_) rfl (by kernel_rfl) (by rfl) ?_ ?_
   rotate_left
   focus (intro w;go_simp;try with_reducible rfl)
   refine hP 1 (v:=?_) rfl (by kernel_rfl) (by rfl) ?_ ?_
   rotate_left
   focus (intro w;go_simp;try with_reducible rfl)
   refine hP 2 (v:=?_) rfl (by kernel_rfl) (by rfl) ?_ ?_
   rotate_left
   focus (intro w;go_simp;try with_reducible rfl)
   refine hT 3 [[3]] (v:=?_) rfl (by kernel_rfl) (by rfl) (by assumption) ?_ ?_
   rotate_left
   focus (intro w hSw;(try dsimp only at hSw);(have t0:=cell_later hSw c0);go_simp;try with_reducible rfl)
   try simp only [Act.put,List.setIfInBounds_toArray,List.set_cons_zero,List.set_cons_succ]
   refine hR [5] (by kernel_rfl) (by simp) (Ac.cons rfl (fun KH hKH=> ?_) .nil)
   go_simp
   (go_at_call 27;refine(HHA.out _ (HB.out.trans (hHeld.mono HB.out.size))).mono ?_;rintro e w1 ⟨ob,rfl,b1,o1⟩)
   try go_wp2_with fail
   have hSO:Sl 1 Fe w1 (some ⟨ob,0,none⟩) (Mm F):=by rw [←HHL.out] at o1;exact o1.sl Dz
   clear o1
   refine hKH.out _ _ ?_ (fun hNew=> ?_)
   ·(first | exact(Below.refl _ _).drew | exact hHeld.trans (b2.mono hHeld.size) | exact hHeld.trans (b1.mono hHeld.size) | exact hHeld)
   clear hKH KH hHeld
   have hHeld:=hNew
   clear hNew
   try simp only [Act.put,List.setIfInBounds_toArray,List.set_cons_zero,List.set_cons_succ]
   refine hR [7] (by kernel_rfl) (by simp) (Ac.cons rfl (fun KH hKH=> ?_) .nil)
   go_simp
   (go_at_call 64;refine(HPI.out _ (HB.out.trans (hHeld.mono HB.out.size)) ob _ hSO (HSW.out.later hHeld (Nat.le_refl _))).mono ?_;rintro e w2 ⟨rfl,b2⟩)
   try go_wp2_with fail
   refine hKH.out _ _ ?_ (fun hNew=> ?_)
   ·(first | exact(Below.refl _ _).drew | exact hHeld.trans (b2.mono hHeld.size) | exact hHeld.trans (b1.mono hHeld.size) | exact hHeld)
   clear hKH KH hHeld
   have hHeld:=hNew
   clear hNew
   try simp only [Act.put,List.setIfInBounds_toArray,List.set_cons_zero,List.set_cons_succ]
   refine hR [8] (by kernel_rfl) (by simp) (Ac.A7 rfl (by kernel_rfl) (fun KH hKH=> ?_) .nil)
   have HBX:=Aa hHeld
   go_simp
   refine hKH.out _ _ ?_
   clear hKH KH
   try clear hHeld
   refine Ai (by kernel_rfl) ?_ _
   refine NoPanic.normal ?_
   replace HB:=Aa (HB.out.trans (HBX.out.mono HB.out.size))
   replace HT:=Aa (HT.out.later HBX.out)
   clear HBX c0 b1 b2 hSO HSW HPI HHA HK HWE HWN HHL e1
   by_cases hp:pk < 0
   ·have e1:decide (pk < 0)=true:=by simpa using hp
    rw [if_pos hp] at HNM
    have hk9:=HT.out.s3 (.int .i64 0) (.bool false) (.int .i64 0)
    have c0:=HT.out.get (j:=0) rfl
    have c1:=HT.out.get (j:=1) rfl
    have c2:=HT.out.get (j:=2) rfl
    have z0:=HT.out.fz 0
    have z1:=HT.out.fz 1
    have z2:=HT.out.fz 2
    have f0:=hk9.get (j:=0) rfl
    have f1:=hk9.get (j:=1) rfl
    have f2:=hk9.get (j:=2) rfl
    have y0:=hk9.fz 0
    have y1:=hk9.fz 1
    have y2:=hk9.fz 2
    have HB9:=Aa (Hz (.int .i64 0) (.bool false) (.int .i64 0) HB.out (Nat.le_refl w.heap.size))
    clear hk9
    go_wp2
    exact bodyPost_ret (v:= .tuple #[.agg #[.int .i64 0, .bool false, .int .i64 0], .bool false]) (by simp [results,Tryz.results35,go_sem,f0,f1,f2,y0,y1,y2]) rfl ⟨by rw [HNM.out];rfl,HB9.out⟩
   ·have e1:decide (pk < 0)=false:=by simpa using hp
    rw [if_neg hp] at HNM
    obtain⟨pn,rfl⟩:∃ pn:Nat,pk=pn:=⟨pk.toNat,by omega⟩
    rw [Int.toNat_natCast] at HNM
    go_wp2_with fail
    refine(HFI.out _ HB.out pn).mono ?_
    rintro e w3 ⟨rfl,b3⟩
    replace HB:=Aa (HB.out.trans (b3.mono HB.out.size))
    replace HT:=Aa (HT.out.later b3)
    clear b3 HFI
    have hr:=HNM.out
    clear HNM hp e1
    generalize De pn 0 F.Aj=r at *
    obtain⟨t9,ht9⟩:∃ t9,t9=r.getD F4:=⟨_,rfl⟩
    obtain⟨tn,tf,ti⟩:=t9
    have e9:Rm r= .agg #[.int .i64 tn, .bool tf, .int .i64 ti]:=by unfold Rm;rw [←ht9];rfl
    obtain⟨bs,hbs⟩:∃ bs,r.isSome=bs:=⟨_,rfl⟩
    have HR:Hid (Value.tuple #[Rm (Ig F), .bool (Ig F).isSome]= .tuple #[.agg #[.int .i64 tn, .bool tf, .int .i64 ti], .bool bs]):=by
     show _=_
     rw [hr,e9,hbs]
    rw [e9,hbs]
    clear hr e9 hbs ht9
    have hk9:=HT.out.s3 (.int .i64 tn) (.bool tf) (.int .i64 ti)
    have c0:=HT.out.get (j:=0) rfl
    have c1:=HT.out.get (j:=1) rfl
    have c2:=HT.out.get (j:=2) rfl
    have z0:=HT.out.fz 0
    have z1:=HT.out.fz 1
    have z2:=HT.out.fz 2
    have f0:=hk9.get (j:=0) rfl
    have f1:=hk9.get (j:=1) rfl
    have f2:=hk9.get (j:=2) rfl
    have y0:=hk9.fz 0
    have y1:=hk9.fz 1
    have y2:=hk9.fz 2
    have HB9:=Aa (Hz (.int .i64 tn) (.bool tf) (.int .i64 ti) HB.out (Nat.le_refl w.heap.size))
    clear hk9
    go_wp2
    exact bodyPost_ret (v:= .tuple #[.agg #[.int .i64 tn, .bool tf, .int .i64 ti], .bool bs]) (by simp [results,Tryz.results35,go_sem,f0,f1,f2,y0,y1,y2]) rfl ⟨by rw [HR.out],HB9.out⟩
end
end Go.Proofs.YtbibeionenjmfaaGreatDoor
namespace Go.Proofs.YtbibeionenjmfaaGreatDoor
open Go.RowKit
def Ma (w:Nat) (p:As):As:={p with st:=2,wh:=(w:Int),saved:= -1}
theorem Abg (F:Ad) (w k:Nat) (many:Int):(Cq F w k many).Aj=F.Aj∨∃ t p,ofM F t=some p∧p.st≠2∧(Cq F w k many).Aj=(setOf F t (Ma w)).Aj:=by
 unfold Cq
 split
 ·exact .inl rfl
 ·next a _=>
  split
  ·exact .inl rfl
  ·split
   ·exact .inl rfl
   ·next p hp=>
    dsimp only
    generalize (if 0 < many then a.at_+min many.toNat (p.many - a.at_) else a.at_)=n
    split
    ·exact .inl rfl
    ·split
     ·exact .inl rfl
     ·next h2=>
      refine .inr ⟨a.t,p,hp,h2,?_⟩
      split <;> rfl
end Go.Proofs.YtbibeionenjmfaaGreatDoor
namespace Go.Proofs.YtbibeionenjmfaaGreatDoor
open Go.RowKit
theorem Af5 {F:Ad} (h:∀ w k a,Aw F w k=some a→a.on=false):Mm F=List.replicate F.Al.length 0:=by
 unfold Mm
 have hall:∀ a∈F.Ap.flatten,a.on=false:=fun a ha=> by
  obtain⟨w,k,hs⟩:=Ajd.1 ha
  exact h w k a hs
 generalize F.Ap.flatten=l at *
 generalize List.replicate F.Al.length (0:Int)=z
 induction l generalizing z with
 | nil=> rfl
 | cons a l ih=>
   rw [List.foldl_cons,if_neg (by rw [hall a (by simp)];decide)]
   exact ih (fun b hb=> hall b (by simp [hb])) z
end Go.Proofs.YtbibeionenjmfaaGreatDoor
namespace Go.Proofs.YtbibeionenjmfaaGreatDoor
open Go.RowKit
def MB (F:Ad):Prop:=∀ t p,ofM F t=some p→(p.many:Int)≤1048576
end Go.Proofs.YtbibeionenjmfaaGreatDoor
namespace Go.Proofs.YtbibeionenjmfaaGreatDoor
open Go.RowKit
def Ad2 (o:Bg):Nat×List Ax×Int×Nat×Bool×List ByteArray×Nat×List ByteArray×Nat×Nat:=(o.queue,o.rs,o.fold,o.slices,o.early,o.lines,o.size,o.out,o.parts.length,o.Cc.length)
def G0 (F:Ad):=F.Aj.map Ad2
theorem Aiw (o:Bg) (fo:Bool) (i:Nat) (f:As→As):Ad2 (A1 o fo i f)=Ad2 o:=by
 unfold A1 Ad2
 split <;> simp [List.length_modify]
theorem Lu {α β:Type} (g:α→β) (f:α→α) (h:∀ x,g (f x)=g x):∀ (l:List α) (i:Nat),(l.modify i f).map g=l.map g
 | [],i=> by cases i <;> rfl
 | x::l,0=> by simp [List.modify_zero_cons,h]
 | x::l,i+1=> by simp [List.modify_succ_cons,Lu g f h l i]
theorem Ul (F:Ad) (t:Eg) (f:As→As):G0 (setOf F t f)=G0 F:=Lu Ad2 _ (fun o=> Aiw o _ _ _) _ _
theorem Abj (F:Ad) (w k:Nat) (many:Int):G0 (Cq F w k many)=G0 F:=by
 rcases Abg F w k many with e | ⟨t,p,_,_,e⟩
 ·unfold G0;rw [e]
 ·have:=Ul F t (Ma w)
  unfold G0 at this ⊢
  rw [e]
  exact this
theorem My (F:Ad) (w:Nat) (many:Int):∀ k,G0 (Ct F w many k)=G0 F
 | 0=> rfl
 | k+1=> (Abj _ w k many).trans (My F w many k)
theorem Agi (F:Ad) (w many:Int):G0 (H4 F w many).2=G0 F:=by
 unfold H4
 split
 ·rfl
 ·split
  ·rfl
  ·exact My _ _ _ _
theorem Ad9 (F:Ad) (w k:Nat) (t:Eg):G0 (Br F w k t)=G0 F:=Ul F t _
theorem Adb (F:Ad) (w:Int):G0 (E5 F w).2=G0 F:=by
 unfold E5
 dsimp only
 split
 ·rfl
 ·split
  ·rfl
  ·exact Ad9 _ _ _ _
end Go.Proofs.YtbibeionenjmfaaGreatDoor
namespace Go.Proofs.YtbibeionenjmfaaGreatDoor
open Go.RowKit
theorem Ry (x:Int×Int):∀ u∈B6 x,u.oneCell'=true:=fun u h=> by
 simp only [B6,List.mem_cons,List.not_mem_nil,or_false] at h
 rcases h with rfl | rfl <;> rfl
theorem Afz:(Tryz.prog.info? 60).map (fun i=> (i.zero,i.size,i.bytes))=some (some (.agg #[.int .i64 0, .int .i64 0]),2,16):=by kernel_rfl
def Fh (a k:Nat):List (Int×Int):=(List.range k).map fun j:Nat=> ((a:Int),(j:Int))
theorem K7 (a k:Nat):(Fh a k).length=k:=by unfold Fh;simp
theorem U1 (a k:Nat):Fh a (k+1)=Fh a k++ [((a:Int),(k:Int))]:=by unfold Fh;rw [List.range_succ,List.map_append];rfl
theorem Yg {a n k:Nat} (h:k < n):(Fh a n)[k]?=some ((a:Int),(k:Int)):=by unfold Fh;simp [h]
section
variable {w0 w w':World} {own:Nat→Eu} {G:Bb} {F F':Ad}
set_option maxHeartbeats 1000000 in
theorem Ah1 (a:Int) (h:Bv w0 w own G F) (hn:¬ (0≤a∧a < F.Ap.length)):Calls Tryz.prog 45 #[.pointer (some ⟨G.fb,0,none⟩), .int .i64 a] w fun e w'=> e= .returned (.tuple #[.slice none 0 0,Ed 5])∧Below w.heap.size w w':=by
 have HS:=Aa (V8 h)
 have c1:=h.bk.get (j:=1) rfl
 rw [A0 (by decide)]
 clear h
 generalize F.Ap.length=m at *
 by_cases h0:a < 0
 ·have e1:decide (a < 0)=true:=by simpa using h0
  go_enter Tryz.func45,Tryz.ntmps45
  go_wp2_with fail
  refine HS.out.mono ?_
  rintro e w1 ⟨rfl,b1⟩
  have HB:=Aa b1
  clear b1 HS c1
  go_wp2
  go_ret2
  exact⟨rfl,HB.out⟩
 ·have e1:decide (a < 0)=false:=by simpa using h0
  obtain⟨i,rfl⟩:∃ i:Nat,a=i:=⟨a.toNat,by omega⟩
  have e2:decide (m≤i)=true:=by simp;omega
  go_enter Tryz.func45,Tryz.ntmps45
  go_wp2_with fail
  refine HS.out.mono ?_
  rintro e w1 ⟨rfl,b1⟩
  have HB:=Aa b1
  clear b1 HS c1
  go_wp2
  go_ret2
  exact⟨rfl,HB.out⟩
set_option maxHeartbeats 1000000 in
theorem Adi {a:Nat} (h:Bv w0 w own G F) (ha:a < F.Ap.length):Calls Tryz.prog 45 #[.pointer (some ⟨G.fb,0,none⟩), .int .i64 a] w fun e w'=> ∃ ao cap,e= .returned (.tuple #[.slice ao G.n cap, .nilIface])∧Own 2 B6 60 w' w.heap.size (.slice ao G.n cap) (Fh a G.n)∧Below w.heap.size w w':=by
 obtain⟨i0,hi,hz0,hz1,hz2⟩:=info_parts Afz
 have HS:=Aa (V8 h)
 have c1:=h.bk.get (j:=1) rfl
 have hn3:=h.bt.ln
 have e1:decide ((a:Int) < 0)=false:=by simp
 have e2:decide (F.Ap.length≤a)=false:=by simp;omega
 clear h
 generalize F.Ap.length=m at *
 generalize G.n=n at *
 go_enter Tryz.func45,Tryz.ntmps45
 go_wp2_with fail
 refine HS.out.mono ?_
 rintro e w1 ⟨rfl,b1⟩
 have HB:=Aa b1
 clear b1 HS c1
 go_wp2
 go_loopw [8,27] (fun v i wr=> ∃ k:Nat,k≤n∧i= .int .i64 k∧Hid (Own 2 B6 60 wr w.heap.size v (Fh a k))∧Hid (Below w.heap.size w wr)) (fun _ i _=> n - (intOf i).toNat)
 case atStart=> exact⟨0,by omega,by go_num,(Own.nil:Own 2 B6 60 w1 w.heap.size (.slice none 0 0) []),HB⟩
 case round=>
  clear HB
  obtain⟨k,hk,rfl,HOW,HBE⟩:=hrel
  by_cases hlt:k < n
  ·have hle:=K7 a k
   have HSU:=Aa (U1 a k)
   generalize Fh a k=acc at *
   have HLE:Hid (acc.length+1≤1000000000):=by show _≤_;omega
   obtain⟨ua,uc,rfl⟩:=id HOW.out.1
   have HOA:=Aa (HOW.out.alloc (.cells #[.int .i64 a, .int .i64 k] 60))
   have HBA:=Aa (HBE.out.alloc HBE.out.size (.cells #[.int .i64 a, .int .i64 k] 60))
   have HSZ:Hid (w.heap.size≤(wr.alloc (.cells #[.int .i64 a, .int .i64 k] 60)).heap.size):=HBA.out.size
   clear hle
   go_wp2_with (at_builtin;refine Bc Ba _ _ 106 i0 _ rfl rfl Tryz.underlying106 hi hz0 hz1 hz2 rfl (by decide) (by decide) HOA.out HBA.out HSZ.out HLE.out rfl ((a:Int),(k:Int)) ⟨wr.heap.size,0,none⟩ 1 rfl (Fb rfl rfl) (Ry _) ?_)
   intro v' w2 ho hb _ _
   have HO:=Aa ho
   have HB:=Aa hb
   clear ho hb HOW HBE HOA HBA
   go_wp2
   go_roundw
   case rel=> exact⟨k+1,by omega,by go_num,by rw [HSU.out];exact HO,HB⟩
   case measure=> (simp [intOf];try omega)
  ·obtain rfl:k=n:=by omega
   obtain⟨ua,uc,rfl⟩:=id HOW.out.1
   rw [K7] at HOW ⊢
   go_wp2
   go_ret2
   exact⟨ua,uc,rfl,HOW.out,HBE.out⟩
end
end Go.Proofs.YtbibeionenjmfaaGreatDoor
namespace Go.Proofs.YtbibeionenjmfaaGreatDoor
open Go.RowKit
section
variable {w0 w w':World} {own:Nat→Eu} {G:Bb} {F F':Ad}
set_option maxHeartbeats 1000000 in
theorem Mz {n:Nat} {o:Bg} (h:Bv w0 w own G F) (ho:F.Aj[n]?=some o):Calls Tryz.prog 16 #[.pointer (some ⟨G.fb,0,none⟩), .int .i64 n] w fun e w'=> e= .returned (.tuple #[Jl o, .nilIface])∧Below w.heap.size w w':=by
 obtain⟨W,hW⟩:∃ W,W=w.alloc (.cells #[.int .i64 0, .int .i64 0, .int .i64 0, .int .i64 0, .int .i64 0, .bool false] 25):=⟨_,rfl⟩
 have hb:Below w.heap.size w W:=by rw [hW];exact ba w _
 have ht:Bk W w.heap.size [.int .i64 0, .int .i64 0, .int .i64 0, .int .i64 0, .int .i64 0, .bool false]:=by rw [hW];exact Bk.new rfl
 obtain⟨g,gb,cap,hg,ej,cjn,hjc,_⟩:=h.T4 ho
 obtain⟨pa,pc,ep,_⟩:=hjc.X5
 have hnl:=(List.getElem?_eq_some_iff.1 ho).1
 have cj:=cell_later hb (h.bk.get (j:=3) rfl)
 rw [ej] at cj
 have cn:=cell_later hb cjn
 have x0:=cell_later hb (hjc.hd.bk.get (j:=0) rfl)
 have x5:=cell_later hb (hjc.hd.bk.get (j:=5) rfl)
 have x6:=cell_later hb (hjc.hd.bk.get (j:=6) rfl)
 have x7:=cell_later hb (hjc.hd.bk.get (j:=7) rfl)
 rw [ep] at x6
 have hrt:=hjc.tk.rt.below hb
 have HCO:=Aa fun W' (k:Below W.heap.size W W')=> Aal (hrt.below k)
 have HOU:=Aa fun W' (k:Below W.heap.size W W')=> Xh (hrt.below k)
 simp only [Ae9] at HCO
 simp only [Jw] at HOU
 have HW:=Aa hW
 have HB:=Aa hb
 have HT:=Aa ht
 have e1:decide ((n:Int) < 0)=false:=by simp
 have e2:decide (F.Aj.length≤n)=false:=by simp;omega
 unfold Jl
 generalize hq:(o.queue:Int)=oq at *
 generalize Gb o.parts=cp at *
 generalize Gb o.Cc=cs at *
 obtain⟨db,hdb⟩:∃ db,decide (cs=o.Cc.length)=db:=⟨_,rfl⟩
 rw [hdb] at HOU ⊢
 generalize o.parts.length=np at *
 generalize o.slices=ns at *
 generalize g.xb=xb at *
 generalize g.tb=tb at *
 generalize g.ob=ob at *
 generalize F.Aj.length=m at *
 clear hW hb ht ej ep hrt hdb hjc hg cjn ho h hq
 go_enter Tryz.func16,Tryz.ntmps16
 go_upto_region 1 with (fail)
 rw [←HW.out]
 clear HW
 go_wp2_with fail
 refine(HCO.out _ (Below.refl _ _)).mono ?_
 rintro e W2 ⟨rfl,b2⟩
 replace HB:=Aa (HB.out.trans (b2.mono HB.out.size))
 replace HT:=Aa (HT.out.later b2)
 replace x0:=cell_later b2 x0
 replace x5:=cell_later b2 x5
 replace x6:=cell_later b2 x6
 replace x7:=cell_later b2 x7
 replace HOU:=Aa fun W' (k:Below W2.heap.size W2 W')=> HOU.out W' (b2.trans (k.mono b2.size))
 clear HCO cj cn b2
 go_upto_region 5 with (fail)
 have r0:=cell_regrown x0
 have r5:=cell_regrown x5
 have r6:=cell_regrown x6
 have r7:=cell_regrown x7
 refine Dt 21 (by kernel_rfl) (by kernel_rfl) ?_
 simp only [List.take_succ_cons,List.take_zero,List.drop_succ_cons,List.drop_zero]
 repeat (go_big_quiet_step (first | (go_at_call 42;exact Calls.regrown_of (HOU.out _ (below_regrown _ _ _)))))
 refine wpQuiet_nil ?_
 intro _ hw'
 obtain⟨⟨dq,osq⟩,hw''⟩:=hw'
 subst hw''
 have hbg:=below_regrown W2 dq osq
 replace HB:=Aa (HB.out.trans (hbg.mono HB.out.size))
 replace HT:=Aa (HT.out.later hbg)
 clear r0 r5 r6 r7 x0 x5 x6 x7 hbg HOU
 generalize Go.Sort.grow (redrawn W2 dq) osq=W6 at *
 have c0:=HT.out.get (j:=0) rfl
 have c1:=HT.out.get (j:=1) rfl
 have c2:=HT.out.get (j:=2) rfl
 have c3:=HT.out.get (j:=3) rfl
 have c4:=HT.out.get (j:=4) rfl
 have c5:=HT.out.get (j:=5) rfl
 have z0:=HT.out.fz 0
 have z1:=HT.out.fz 1
 have z2:=HT.out.fz 2
 have z3:=HT.out.fz 3
 have z4:=HT.out.fz 4
 have z5:=HT.out.fz 5
 have hk9:=HT.out.s6 (.int .i64 oq) (.int .i64 np) (.int .i64 cp) (.int .i64 ns) (.int .i64 cs) (.bool db)
 have f0:=hk9.get (j:=0) rfl
 have f1:=hk9.get (j:=1) rfl
 have f2:=hk9.get (j:=2) rfl
 have f3:=hk9.get (j:=3) rfl
 have f4:=hk9.get (j:=4) rfl
 have f5:=hk9.get (j:=5) rfl
 have y0:=hk9.fz 0
 have y1:=hk9.fz 1
 have y2:=hk9.fz 2
 have y3:=hk9.fz 3
 have y4:=hk9.fz 4
 have y5:=hk9.fz 5
 have HB9:=Aa (Tf (.int .i64 oq) (.int .i64 np) (.int .i64 cp) (.int .i64 ns) (.int .i64 cs) (.bool db) HB.out (Nat.le_refl w.heap.size))
 clear hk9
 go_wp2
 exact bodyPost_ret (v:= .tuple #[.agg #[.int .i64 oq, .int .i64 np, .int .i64 cp, .int .i64 ns, .int .i64 cs, .bool db], .nilIface]) (by simp [results,Tryz.results16,go_sem,f0,f1,f2,f3,f4,f5,y0,y1,y2,y3,y4,y5]) rfl ⟨rfl,HB9.out⟩
end
end Go.Proofs.YtbibeionenjmfaaGreatDoor
namespace Go.Proofs.YtbibeionenjmfaaGreatDoor
open Go.RowKit
theorem Ajo {rs:List Ax} {fold:Int} {many:Nat} {lines:List ByteArray} {k:Nat} (hr:rs.length≤4) (hl:lines.length≤60) (hs:∀ l∈lines,l.size≤120):(U4 rs fold many lines k).length≤36480:=by
 unfold U4 Pt
 have h1:=List.length_filter_le (Bf many k) (Ae fold (Dq (A9 rs fold lines)))
 have h2:=D3 fold (Dq (A9 rs fold lines))
 rw [E6] at h2
 have h3:=I4 rs fold hr lines (fun l hl=> Nat.le_trans (hs l hl) (by decide))
 omega
theorem Fz.mb {F:Ad} (h:Fz F):MB F:=fun t p hp=> by
 obtain⟨o,ho,hok⟩:=h.ok hp
 have hf:=h.Hj t.1 o ho
 have hm:=hok.many
 unfold G7 at hm
 split at hm
 ·have:=Ajo (fold:=o.fold) (many:=o.slices) (k:=t.2.2) (Na hf.ok).1.2 hf.lines hf.short
  omega
 ·have:=hf.size
  omega
end Go.Proofs.YtbibeionenjmfaaGreatDoor
