/- The floor: Offer. -/
import Derived.Test.YtbibeionenjmfaaGreatDoorZFlNext
import Derived.DeepKeys4
set_option linter.unusedSimpArgs false
set_option linter.unusedVariables false
namespace Go.Proofs.YtbibeionenjmfaaGreatDoor
open Go.RowKit
theorem Ht {α:Type} {l:List α} {i:Nat} {x:α} (f:α→α) (h:l[i]?=some x):l.modify i f=l.set i (f x):=by
 apply List.ext_getElem?
 intro j
 rw [get_modify]
 by_cases hj:i=j
 ·subst hj
  rw [if_pos rfl,h,List.getElem?_set_self (List.getElem?_eq_some_iff.1 h).1];rfl
 ·rw [if_neg hj,List.getElem?_set_ne hj]
theorem Uj {α β:Type} (g:α→β) (f:α→α) {l:List α} {i:Nat} {x:α} (h:l[i]?=some x):(l.modify i f).map g=(l.map g).set i (g (f x)):=by
 rw [Ht f h,List.map_set]
theorem Q5 {o:Ba} {fold:Bool} {i:Nat} {p:As} (f:As→As) (hp:(Eb o fold)[i]?=some p):
 (A5 o fold i f).parts.map J6=L3 fold (o.parts.map J6) i (J6 (f p))∧(A5 o fold i f).Bw.map J6=Ic fold (o.Bw.map J6) i (J6 (f p)):=by
 unfold A5 Eb L3 Ic at *
 cases fold
 ·simp only [Bool.false_eq_true,if_false] at hp ⊢
  exact⟨Uj J6 f hp,trivial⟩
 ·simp only [if_true] at hp ⊢
  exact⟨trivial,Uj J6 f hp⟩
theorem Aku (o:Ba) (fold:Bool):Jw fold (o.parts.map J6) (o.Bw.map J6)=(Eb o fold).map J6:=by
 unfold Jw Eb;cases fold <;> rfl
theorem Lz (o:Ba) (fold go:Bool) (i j:Nat) (f:As→As):(Eb (A5 o fold i f) go)[j]?=if go=fold∧j=i then((Eb o go)[j]?).map f else(Eb o go)[j]?:=by
 rw [Ol]
 by_cases hg:fold=go
 ·subst hg
  rw [if_pos rfl,get_modify]
  by_cases hj:i=j
  ·subst hj
   rw [if_pos rfl,if_pos ⟨rfl,rfl⟩]
  ·rw [if_neg hj,if_neg (fun e=> hj e.2.symm)]
 ·rw [if_neg hg,if_neg (fun e=> hg e.1.symm)]
section
variable {w0 w w':World} {own:Nat→Ez} {G:Bg} {F F':Ad} {T:Nat→Prop} {n:Nat} {g:Ec} {o o':Ba}
theorem B8.Ap9 (h:B8 w0 w own G F) (k:Ab T w w') (hT:∀ q,T q→own q= .Mc n∨own q= .parts n∨own q= .outs n∨own q= .saved n) (hg:G.jg[n]?=some g) (ho:F.Af[n]?=some o) (hc:Fh w0 w' own n g o') (eo:Ed o o')
 (e1:F'.Aj=F.Aj) (e2:F'.Ag=F.Ag) (e3:F'.log=F.log) (e4:F'.Af=F.Af.set n o'):B8 w0 w' own G F':=by
 have:=h.job k hT hg ho hc (Wi.refl g) eo e1 e2 e3 e4
 rw [M0 hg] at this
 exact this
theorem Fh.Apc {fold:Bool} {i:Nat} {p:As} (f:As→As) (h:Fh w0 w own n g o) (hp:(Eb o fold)[i]?=some p) (k:Ab T w w') (hT:∀ q,T q→own q= .Mc n)
 (rt':RT w' w0.heap.size g.tb g.pb g.sb (L3 fold (o.parts.map J6) i (J6 (f p))) (Ic fold (o.Bw.map J6) i (J6 (f p)))) (hst:(f p).st=2→p.st=2) (hsv:(f p).saved=p.saved):Fh w0 w' own n g (A5 o fold i f):=by
 have hs:=Ed.A5 o fold i f
 obtain⟨e1,e2⟩:=Q5 f hp
 have hst2:∀ go (j:Nat) p',(Eb (A5 o fold i f) go)[j]?=some p'→∃ p0,(Eb o go)[j]?=some p0∧(p'.st=2→p0.st=2)∧p'.saved=p0.saved:=fun go j p' hj=> by
  rw [Lz] at hj
  split at hj
  ·rename_i hc
   obtain⟨rfl,rfl⟩:=hc
   rw [hp] at hj
   cases hj
   exact⟨p,hp,hst,hsv⟩
  ·exact⟨p',hj,id,rfl⟩
 refine⟨(h.hd.kept k fun q hq=> by rw [hT q hq];simp).to hs,⟨by rw [e1,e2];exact rt',h.tk.ot⟩,(h.pt.kept k fun q hq=> by rw [hT q hq];simp).to hs ?_ fun j p' hj h2=> ?_,(h.os.kept k fun q hq=> by rw [hT q hq];simp).to hs fun j p' hj h2=> ?_,(h.sv.kept k fun q hq=> by rw [hT q hq];simp).to hs fun go j p' hj=> ?_⟩
 ·have:=congrArg List.length e1
  rw [List.length_map] at this
  rw [this]
  unfold L3
  split <;> simp
 ·obtain⟨p0,h1,h3,_⟩:=hst2 false j p' hj
  exact⟨p0,h1,h3 h2⟩
 ·obtain⟨p0,h1,h3,_⟩:=hst2 true j p' hj
  exact⟨p0,h1,h3 h2⟩
 ·obtain⟨p0,h1,_,h4⟩:=hst2 go j p' hj
  exact⟨p0,h1,h4⟩
theorem Fh.tag (h:Fh w0 w own n g o) (fold:Bool):own (Jr fold g.pb g.sb)= .Mc n:=by
 unfold Jr;cases fold
 ·exact h.tk.ot.2.1
 ·exact h.tk.ot.2.2
theorem Ady {fold:Bool} {i:Nat} {p:As} (hp:(Eb o fold)[i]?=some p):(Jw fold (o.parts.map J6) (o.Bw.map J6))[i]?=some (p.st,p.wh):=by
 rw [Aku,List.getElem?_map,hp];rfl
theorem B8.Apc {fold:Bool} {i:Nat} {p:As} (f:As→As) (h:B8 w0 w own G F) (hg:G.jg[n]?=some g) (ho:F.Af[n]?=some o) (hp:(Eb o fold)[i]?=some p) (k:Ab T w w') (hT:∀ q,T q→own q= .Mc n)
 (rt':RT w' w0.heap.size g.tb g.pb g.sb (L3 fold (o.parts.map J6) i (J6 (f p))) (Ic fold (o.Bw.map J6) i (J6 (f p)))) (hst:(f p).st=2→p.st=2) (hsv:(f p).saved=p.saved):B8 w0 w' own G (setOf F (n,fold,i) f):=
 h.Ap9 k (fun q hq=> .inl (hT q hq)) hg ho ((h.js n g o hg ho).Apc f hp k hT rt' hst hsv) (Ed.A5 o fold i f) rfl rfl rfl (Ht _ ho)
theorem Ri {fold:Bool} {i:Nat} {p:As} (h:B8 w0 w own G F) (hg:G.jg[n]?=some g) (ho:F.Af[n]?=some o) (hp:(Eb o fold)[i]?=some p) (hm:Ku fold p.st (o.parts.map J6)=true):
 Calls Tryz.prog 72 #[.pointer (some ⟨g.tb,0,none⟩), .bool fold, .int .i64 i] w fun e w'=> e= .returned .nilIface∧Ab (fun q=> own q= .Mc n) w w'∧B8 w0 w' own G (setOf F (n,fold,i) fun p=> {p with st:=1}):=by
 have hc:=h.js n g o hg ho
 refine(Af9 hc.tk.rt (Ady hp) hm).mono ?_
 rintro e w' ⟨rfl,k,hrt⟩
 have k':=k.mono (T:=fun q=> own q= .Mc n) fun q hq=> hq ▸ hc.tag fold
 exact⟨rfl,k',h.Apc (fun p=> {p with st:=1}) hg ho hp k' (fun q hq=> hq) hrt (fun e=> by cases e) rfl⟩
end
end Go.Proofs.YtbibeionenjmfaaGreatDoor
namespace Go.Proofs.YtbibeionenjmfaaGreatDoor
open Go.RowKit
theorem Aj2:laidOutB Tryz.prog=true:=by kernel_rfl
theorem Aov:(60:TypeId) < (Tryz.prog).types.size:=of_decide_eq_true (by kernel_rfl)
theorem Aow:(33:TypeId) < (Tryz.prog).types.size:=of_decide_eq_true (by kernel_rfl)
theorem Aee:Maps.Keyed Tryz.prog 60:=Maps.Keyed.of_law (deep_law_laid Aj2 (m:=4) (by omega) Aov (by kernel_rfl) (by kernel_rfl))
theorem Aob:Maps.Keyed Tryz.prog 33:=Maps.Keyed.of_law (deep_law_laid Aj2 (m:=4) (by omega) Aow (by kernel_rfl) (by kernel_rfl))
theorem Aoq:(Tryz.prog).cellsOf 60=2:=by kernel_rfl
theorem Aor:(Tryz.prog).cellsOf 33=3:=by kernel_rfl
theorem Ajr:(Tryz.prog).cellsOf 3=1:=by kernel_rfl
theorem Aop:(Tryz.prog).cellsOf 4=1:=by kernel_rfl
theorem Apm:(Tryz.prog).keyType 60=true:=by kernel_rfl
theorem Apn:(Tryz.prog).keyType 33=true:=by kernel_rfl
theorem Xf:∃ m,(Tryz.prog).types.size+1=m+1+1:=⟨(Tryz.prog).types.size - 1,by have h:1≤(Tryz.prog).types.size:=of_decide_eq_true (by kernel_rfl);omega⟩
theorem Qy {a b:Int} (ha:(Lit.int .i64 a).wf=true) (hb:(Lit.int .i64 b).wf=true):keyOf Tryz.prog 60 (.agg #[.int .i64 a, .int .i64 b])=some (.string (keyBytes [.int .i64 a, .int .i64 b])):=by
 obtain⟨m,hm⟩:=Xf
 unfold keyOf
 rw [Tryz.underlying60]
 dsimp only
 rw [Apm,hm]
 simp [Value.formed,Tryz.underlying60,Aoq,Program.keyLits,Value.cells,Tryz.underlying3,Ajr,ha,hb]
theorem Ab6 {a c:Int} {b:Bool} (ha:(Lit.int .i64 a).wf=true) (hc:(Lit.int .i64 c).wf=true):keyOf Tryz.prog 33 (.agg #[.int .i64 a, .bool b, .int .i64 c])=some (.string (keyBytes [.int .i64 a, .bool b, .int .i64 c])):=by
 obtain⟨m,hm⟩:=Xf
 unfold keyOf
 rw [Tryz.underlying33]
 dsimp only
 rw [Apn,hm]
 simp [Value.formed,Tryz.underlying33,Aor,Program.keyLits,Value.cells,Tryz.underlying3,Tryz.underlying4,Ajr,Aop,ha,hc]
theorem Ki {n:Nat} (h:n≤1000000):(Lit.int .i64 (n:Int)).wf=true:=by
 show(decide (IntKind.i64.min≤(n:Int)) && decide ((n:Int)≤IntKind.i64.max))=true
 have h1:IntKind.i64.min= -9223372036854775808:=by decide
 have h2:IntKind.i64.max=9223372036854775807:=by decide
 rw [h1,h2,Bool.and_eq_true,decide_eq_true_eq,decide_eq_true_eq]
 omega
def Af8:Value:= .agg #[.pointer none, .pointer none]
theorem Sr (w:World):(zeroValue 112).run Tryz.prog w= .ok Af8 w:=by kernel_rfl
theorem Aci (w:World):(zeroValue 9).run Tryz.prog w= .ok (.string ⟨#[]⟩) w:=by kernel_rfl
theorem Ak5 {a b a' b':Nat} (h:¬ (a'=a∧b'=b)):B7 a' b'≠B7 a b:=by
 unfold B7
 intro e
 injection e with e
 have:=congrArg Array.toList e
 simp at this
 exact h ⟨by omega,by omega⟩
theorem All {t t':Ev} (h:C9 t=C9 t'):t=t':=by
 obtain⟨n,f,i⟩:=t
 obtain⟨n',f',i'⟩:=t'
 unfold C9 at h
 injection h with e
 have:=congrArg Array.toList e
 simp at this
 obtain⟨h1,h2,h3⟩:=this
 exact Prod.ext (by show n=n';omega) (Prod.ext h2 (by show i=i';omega))
def Wk:List Value:=(List.range 4).flatMap fun a=> (List.range 3).map fun b=> B7 a b
theorem Ad0 {a b:Nat} (ha:a < 4) (hb:b < 3):B7 a b∈Wk:=List.mem_flatMap.2 ⟨a,List.mem_range.2 ha,List.mem_map.2 ⟨b,List.mem_range.2 hb,rfl⟩⟩
section
variable {w0 w w':World} {own:Nat→Ez} {G:Bg} {F F':Ad}
theorem B8.Ao9 (h:B8 w0 w own G F) {a b:Nat} (ha:a < 4) (hb:b < 3) (hoff:∀ t,An F a b=some t→t.on=false) {v:Value} (hv:∃ r0 r1:Option Addr,v= .agg #[.pointer r0, .pointer r1]):
 ∃ w5,(Instr.mapUpdate 87 (.map (some G.mb)) (B7 a b) v).run Tryz.prog w= .ok () w5∧B8 w0 w5 own {G with rf:=M8 G.rf (B7 a b) (some v)} F∧Ab (fun q=> own q= .runs) w w5:=by
 obtain⟨w5,hrun,hm,hk⟩:=h.rn.store Aee Tryz.underlying87 (Sr w) (L:=Wk) (fun x hx=> by
  obtain⟨⟨a,b,ha,hb,rfl⟩,_⟩:=h.rd x hx
  exact Ad0 ha hb) (by decide) (key:=B7 a b) (val:=v) (Qy (Ki (by omega)) (Ki (by omega)))
 have hk':=hk.mono (T:=fun q=> own q= .runs) fun q hq=> hq ▸ h.P8
 refine⟨w5,hrun,h.runs hk' (fun q hq=> hq) hm (fun x hx=> ?_) fun a' b' t h1 h2=> ?_,hk'⟩
 ·by_cases hxe:x=B7 a b
  ·subst hxe
   obtain⟨r0,r1,e⟩:=hv
   exact⟨⟨a,b,ha,hb,rfl⟩,r0,r1,by rw [Hu,e]⟩
  ·rw [Fx hxe] at hx ⊢
   exact h.rd x hx
 ·refine Fx (Ak5 fun e=> ?_)
  obtain⟨rfl,rfl⟩:=e
  rw [hoff t h1] at h2
  cases h2
theorem B8.Ami (h:B8 w0 w own G F) {a b:Int} (ha:(Lit.int .i64 a).wf=true) (hb:(Lit.int .i64 b).wf=true) (hoff:∀ (a' b':Nat) t,(a':Int)=a→(b':Int)=b→An F a' b'=some t→t.on=false) (ty:TypeId):
 ∃ w5,(Builtin.delete_ #[87,60] ty #[.map (some G.mb), .agg #[.int .i64 a, .int .i64 b]]).run Tryz.prog w= .ok (.tuple #[]) w5∧B8 w0 w5 own {G with rf:=M8 G.rf (.agg #[.int .i64 a, .int .i64 b]) none} F∧Ab (fun q=> own q= .runs) w w5:=by
 obtain⟨w5,hrun,hm,hk⟩:=h.rn.drop Aee Tryz.underlying87 (key:= .agg #[.int .i64 a, .int .i64 b]) (Qy ha hb) ty
 have hk':=hk.mono (T:=fun q=> own q= .runs) fun q hq=> hq ▸ h.P8
 refine⟨w5,hrun,h.runs hk' (fun q hq=> hq) hm (fun x hx=> ?_) fun a' b' t h1 h2=> ?_,hk'⟩
 ·by_cases hxe:x= .agg #[.int .i64 a, .int .i64 b]
  ·rw [hxe,Hu] at hx
   exact absurd rfl hx
  ·rw [Fx hxe] at hx ⊢
   exact h.rd x hx
 ·refine Fx fun e=> ?_
  unfold B7 at e
  injection e with e
  have:=congrArg Array.toList e
  simp at this
  rw [hoff a' b' t this.1 this.2 h1] at h2
  cases h2
theorem B8.Afo (h:B8 w0 w own G F) (a b:Nat) (ha:a≤1000000) (hb:b≤1000000):(Instr.lookup 87 (.map (some G.mb)) (B7 a b) false).run Tryz.prog w= .ok ((G.rf (B7 a b)).getD Af8) w:=
 h.rn.Apr Aee Tryz.underlying87 (Sr w) (Qy (Ki ha) (Ki hb))
theorem Fh.Xh {n:Nat} {g:Ec} {o:Ba} (h:Fh w0 w own n g o) (fold:Bool) (i:Nat) (hn:n≤1000000) (hi:i≤1000000):(Instr.lookup 99 (.map (some g.mb)) (C9 (n,fold,i)) true).run Tryz.prog w= .ok (.tuple #[(g.sf (C9 (n,fold,i))).getD (.string ⟨#[]⟩), .bool (g.sf (C9 (n,fold,i))).isSome]) w:=
 h.sv.sv.look Aob Tryz.underlying99 (Aci w) (Ab6 (Ki hn) (Ki hi))
end
end Go.Proofs.YtbibeionenjmfaaGreatDoor
namespace Go.Proofs.YtbibeionenjmfaaGreatDoor
open Go.RowKit
theorem Agk {B:Nat} {kind:Int} {L:List Pr} {c n d:Nat} {S LS:Nat→Prop} {v:Value} (w:World) (hg:GW w) (hB:B≤w.heap.size) (h:Gv w B kind L d S LS v) (hLS:∀ q,LS q→q < w.heap.size) (hst:Fa kind L n c) (hn:n≤L.length) (hc:c≤(Ae kind L).length) (hok:Nv L) (hs:(Ct ((Ae kind L).take c)).length≤9000000):
 Calls Tryz.prog 74 #[v, .string (tx (Gg n ((Ae kind L).take c)))] w fun e w'=> (e= .returned (.bool true)∧Gv w' B kind L c (fun q=> S q∨(w.heap.size≤q∧q < w'.heap.size)) LS v)∧Ab S w w':=by
 obtain⟨g,m,la,lc,va,rfl,h1,h2,h3,h4,h5,h6,h7⟩:=h
 have hL:=hok.1
 have hl:(Lib.itoa (n:Int)).length≤20:=C4 (by omega) (by omega)
 refine(Ai7 w hg hB h1 hst hn (by omega) (Afu hok kind c) (by rw [Pu];omega) fun b o e=> hLS b (h6 b o e)).mono ?_
 rintro e w' ⟨⟨rfl,va',k1,k2⟩,k3⟩
 exact⟨⟨rfl,g,n,la,lc,va',rfl,k1,hst,hc, .inl h4,fun q e=> .inr ⟨k2 q e,(k1.own.lt q e).2⟩,h6,Nat.lt_of_lt_of_le h7 k3.size⟩,k3.mono fun q e=> e ▸ h4⟩
theorem D8.bd {w:World} {B:Nat} {ro:Option Addr} {rc:Nat} {rs:List Ao} {fold slices:Int} {early:Bool} {lines:List ByteArray} {n:Nat} {S:Nat→Prop} {v:Value} (h:D8 w B ro rc rs fold slices early lines n S v):D8 w B ro rc rs fold slices early lines n (fun q=> S q∧q < w.heap.size) v:=by
 obtain⟨g,la,lc,va,e,h1,h2,h3,h4⟩:=h
 exact⟨g,la,lc,va,e,h1,⟨h2,h1.bk.lt⟩,fun q e=> ⟨h3 q e,(h1.own.lt q e).2⟩,fun b o e=> ⟨h4 b o e,(h1.apart.2 b o e).1.2⟩⟩
section
variable {w0 w w' W:World} {own own':Nat→Ez} {G:Bg} {F F':Ad} {n:Nat} {g:Ec} {o:Ba}
theorem B8.Eo (h:B8 w0 w own G F) {q:Nat} (hq:w.heap.size≤q):own q= .out:=by
 cases hc:own q with
 | out=> rfl
 | _=> have:=(h.lo q (by rw [hc];simp)).2;omega
theorem B8.gwl (h:B8 w0 w own G F):GW w:=h.gw.later h.E5 (Nat.le_refl _)
theorem Sl.part {w:World} {ao:Option Addr} {l:List (Value×Value)} (h:Sl 2 Ew w ao l) {k:Nat} (hk:k < l.length):
 ∃ b off x y,ao=some ⟨b,off,none⟩∧b < w.heap.size∧l[k]?=some (x,y)∧w.cell? ⟨b,off+k * 2,none⟩=some x∧w.cell? ⟨b,off+k * 2+1,none⟩=some y:=by
 obtain⟨b,off,e,hlt,hc⟩:=h (by omega)
 refine⟨b,off,l[k].1,l[k].2,e,hlt,by simp [hk],?_,?_⟩
 ·have:=hc k l[k] 0 _ (by simp [hk]) rfl
  simpa using this
 ·have:=hc k l[k] 1 _ (by simp [hk]) rfl
  simpa using this
theorem Fh.U8 {fold:Bool} {i:Nat} {p:As} (h:Fh w0 w own n g o) (hp:(Eb o fold)[i]?=some p):∃ (s:ByteArray) (is:Bool),(g.sf (C9 (n,fold,i))).getD (.string ⟨#[]⟩)= .string s∧(g.sf (C9 (n,fold,i))).isSome=is∧(is=false→p.saved < 0)∧(is=true→0≤p.saved∧Oc o fold i p.saved.toNat s):=by
 obtain⟨h1,h2⟩:=h.sv.ss fold i p hp
 by_cases hs:p.saved < 0
 ·rw [h1 hs]
  exact⟨⟨#[]⟩,false,rfl,rfl,fun _=> hs,fun e=> (by cases e)⟩
 ·obtain⟨s,h3,h4⟩:=h2 (by omega)
  rw [h3]
  exact⟨s,true,rfl,rfl,fun e=> (by cases e),fun _=> ⟨by omega,h4⟩⟩
theorem Afj (hi:InvC F) (t:Ev):InvC (setOf F t fun p=> {p with st:=1}):=hi.setOf t (fun p=> {p with st:=1}) fun o p _ _ hp=> ⟨hp.many, .inr (.inl rfl),hp.saved⟩
theorem Agf {i:Nat} {la:Option Addr} {lc:Nat} (h:B8 w0 w own G F) (hi:InvC F) (hg:G.jg[n]?=some g) (ho:F.Af[n]?=some o) (hs:Sl 1 Cm w la (Aq o i)) (hn:la=none→lc=0):
 Calls Tryz.prog 75 #[.agg #[.slice g.ro g.rs.length g.rc, .int .i64 o.fold, .bool o.early, .int .i64 o.slices], .slice la (Aq o i).length lc] w fun e w'=> (∃ v,e= .returned (.tuple #[v, .nilIface])∧D8 w' w.heap.size g.ro g.rc g.rs o.fold o.slices o.early (Aq o i) 0 (fun q=> w.heap.size≤q∧q < w'.heap.size) v)∧Below w.heap.size w w':=by
 have hc:=h.js n g o hg ho
 have hf:=hi.Hl n o ho
 have hr4:g.rs.length≤4:=by have:=hf.many.2;rw [←hc.hd.rv,List.length_map] at this;exact this
 have h60:(Aq o i).length≤60:=by rw [Cr];unfold G8;have:=hf.lines;simp;omega
 exact Ai8 g.ro g.rc g.rs o.fold o.slices o.early 6 la lc (Aq o i) w ⟨hc.hd.ru.sl,hc.hd.ru.Y9⟩ (by unfold maxLen;omega) hs hn (by rw [hc.hd.rv];exact hf.ok) h60
theorem Aco {i m B:Nat} {S:Nat→Prop} {v:Value} (h:B8 w0 w own G F) (hi:InvC F) (hg:G.jg[n]?=some g) (ho:F.Af[n]?=some o) (hr:D8 w B g.ro g.rc g.rs o.fold o.slices o.early (Aq o i) 0 S v) (hB:B≤w.heap.size) (hm:m≤(Aq o i).length):
 Calls Tryz.prog 76 #[v, .string (tx (Gg m (Bf o.rs o.fold ((Aq o i).take m))))] w fun e w'=> (e= .returned (.bool true)∧D8 w' B g.ro g.rc g.rs o.fold o.slices o.early (Aq o i) m (fun q=> S q∨w.heap.size≤q) v)∧Ab S w w':=by
 have hc:=h.js n g o hg ho
 have hf:=hi.Hl n o ho
 have h60:(Aq o i).length≤60:=by rw [Cr];unfold G8;have:=hf.lines;simp;omega
 have h1:=hf.Ao8 i m
 have h2:=hf.Ak4 i m
 rw [←hc.hd.rv] at h1 h2 ⊢
 exact Agm w h.gwl hB hr hm (by omega) h1 h2
theorem Cf.ofM {a b i c N B:Nat} {S:Nat→Prop} {vm:Value} (hr:D8 w B g.ro g.rc g.rs o.fold o.slices o.early (Aq o i) c S vm) (hB:g.nb≤B∧w0.heap.size≤B∧B≤w.heap.size) (hS:∀ q,S q→N≤q∧q < w.heap.size):Cf w0 w (Dr own N w.heap.size (.run a b)) a b g o (n,false,i) c (.agg #[vm, .pointer none]):=by
 unfold Cf
 rw [if_neg (by simp)]
 exact⟨B,vm,rfl,hB,hr.more fun q hq=> Gu (hS q hq)⟩
theorem Cf.ofF {a b i c N B:Nat} {S LS:Nat→Prop} {vf:Value} (hr:Gv w B o.fold (Cd o i) c S LS vf) (hB:w0.heap.size≤B∧B≤w.heap.size) (hS:∀ q,S q→N≤q∧q < w.heap.size) (hL:∀ q,LS q→N≤q∧q < w.heap.size):Cf w0 w (Dr own N w.heap.size (.run a b)) a b g o (n,true,i) c (.agg #[.pointer none,vf]):=by
 unfold Cf
 rw [if_pos rfl]
 exact⟨B,vf,rfl,hB,hr.more (fun q hq=> Gu (hS q hq)) fun q hq=> Gu (hL q hq)⟩
theorem Agc {k:Nat} {ao:Option Addr} {cap:Nat} {rs:List Qe} (h:B8 w0 w own G F) (hi:InvC F) (ho:F.Af[n]?=some o) (hrs:Cz rs=given o.rs o.fold o.early o.slices (chunks o) k) (hl:rs.length=o.parts.length) (hs:Sl 1 Kb w ao rs) (hrow:∀ r∈rs,Sl 2 Bt w r.1 r.2.2):
 Calls Tryz.prog 73 #[.int .i64 o.fold, .slice ao rs.length cap] w fun e w'=> (∃ g,e= .returned (.tuple #[.pointer (some ⟨g,0,none⟩), .nilIface])∧Gv w' w.heap.size o.fold (Cd o k) 0 (fun q=> w.heap.size≤q∧q < w'.heap.size) (fun q=> w.heap.size≤q∧q < w'.heap.size) (.pointer (some ⟨g,0,none⟩)))∧Below w.heap.size w w':=by
 have hf:=hi.Hl n o ho
 have hp:=hf.Nl
 have h1:=hf.Aff k
 have:=Ai9 o.fold ao cap rs w hf.kind.1 (by omega) (by rw [hrs];omega) (by rw [hrs];exact Adi) hs hrow
 rw [hrs] at this
 exact this
theorem Acl {B k m c:Nat} {S LS:Nat→Prop} {v:Value} (h:B8 w0 w own G F) (hi:InvC F) (ho:F.Af[n]?=some o) (hr:Gv w B o.fold (Cd o k) 0 S LS v) (hB:B≤w.heap.size) (hLS:∀ q,LS q→q < w.heap.size) (hst:Fa o.fold (Cd o k) m c) (hm:m≤(Cd o k).length) (hc:c≤(Ae o.fold (Cd o k)).length):
 Calls Tryz.prog 74 #[v, .string (tx (Gg m ((Ae o.fold (Cd o k)).take c)))] w fun e w'=> (e= .returned (.bool true)∧Gv w' B o.fold (Cd o k) c (fun q=> S q∨(w.heap.size≤q∧q < w'.heap.size)) LS v)∧Ab S w w':=
 Agk w h.gwl hB hr hLS hst hm hc ((hi.Hl n o ho).Ym k) ((hi.Hl n o ho).T4 k c)
theorem Fh.rowAt {j k:Nat} {p:As} (h:Fh w0 w own n g o) (hp:o.parts[j]?=some p) (hst:p.st=2) (hk:k < o.slices) (hl:o.parts.length=(o.lines.length+o.size - 1) / o.size):
 ∃ lv ob a cap l,g.pl[j]?=some (lv, .slice (some ⟨ob,0,none⟩) o.slices o.slices)∧w.cell? ⟨ob,k,none⟩=some (.slice a l.length cap)∧Sl 2 Bt w a l∧(given o.rs o.fold o.early o.slices (chunks o) k)[j]?=some l∧own ob= .Kq∧∀ b o,a=some ⟨b,o,none⟩→own b= .Kq:=by
 have hjl:=(List.getElem?_eq_some_iff.1 hp).1
 have hj:j < g.pl.length:=by rw [h.pt.pn];exact hjl
 obtain⟨⟨lv,ov⟩,hpl⟩:∃ x,g.pl[j]?=some x:=⟨_,List.getElem?_eq_getElem hj⟩
 obtain⟨ob,vs,rfl,hr⟩:=h.pt.mp j p lv ov hp hpl hst
 have hlen:k < (Ko o.fold o.early o.slices (Bf o.rs o.fold (Aq o j))).length:=by rw [Ajy];exact hk
 obtain⟨v,l,hv,hlk,hown,hcell⟩:=hr.rws.row hlen
 obtain⟨a,cap,rfl⟩:=id hown.1
 refine⟨lv,ob,a,cap,l,hpl,hcell,hown.sl Bn,?_,hr.o1,fun b o e=> hr.o2 _ (List.mem_of_getElem? hv) b (by rw [e];rfl)⟩
 unfold given chunks
 rw [List.getElem?_map,List.getElem?_map,List.getElem?_range (by rw [←hl];exact hjl)]
 have:=Aha hk hlk
 rw [this];rfl
theorem Li {w2 W7:World} {a b c:Nat} {t:Ev} {v:Value} (h2:B8 w0 w2 own G F) (hB:Below w2.heap.size w2 W7) (ha:a < 4) (hb:b < 3) (hon:∃ x,An F a b=some x) (hoff:∀ x,An F a b=some x→x.on=false) (hg:G.jg[t.1]?=some g) (ho:F.Af[t.1]?=some o)
 (hr:Cf w0 W7 (Dr own w2.heap.size W7.heap.size (.run a b)) a b g o t c v):
 ∃ w8,(Instr.mapUpdate 87 (.map (some G.mb)) (B7 a b) v).run Tryz.prog (W7.drewN 1)= .ok () w8∧Ab (fun q=> own q= .runs) W7 w8∧w8.cell? ⟨G.fb,1,none⟩=some (.pointer (some ⟨G.bb,0,none⟩))∧
   ∀ nq,Calls Tryz.prog 77 #[.pointer (some ⟨G.bb,0,none⟩),B7 a b,C9 t] (w8.drewN nq) fun e w'=> e= .returned .nilIface∧Ab (fun q=> own q≠ .out) w2 w'∧∃ own' G',B8 w0 w' own' G' (Au F a b ⟨true,t,c⟩)∧G'.fb=G.fb∧∀ q,q < w2.heap.size→own' q=own q:=by
 have h7:=(h2.Ap6 hB (.run a b)).later (below_drewN (Below.refl W7.heap.size W7) 1)
 obtain⟨w8,hrun,h8,k8⟩:=h7.Ao9 ha hb hoff hr.shape
 have hown:∀ q,Dr own w2.heap.size W7.heap.size (.run a b) q= .runs→own q= .runs:=fun q hq=> by
  by_cases hin:w2.heap.size≤q∧q < W7.heap.size
  ·rw [Gu hin] at hq;cases hq
  ·rw [Ch hin] at hq;exact hq
 have k8':Ab (fun q=> own q= .runs) W7 w8:=(Ab.Ai (S:=fun q=> own q= .runs) (below_drewN (Below.refl W7.heap.size W7) 1) (Nat.le_refl _)).trans (k8.mono hown)
 refine⟨w8,hrun,k8',h8.bk.get (j:=1) rfl,fun nq=> ?_⟩
 have h9:=h8.later (below_drewN (Below.refl w8.heap.size w8) nq)
 obtain⟨x,hx⟩:=hon
 have hr7:Cf w0 (w8.drewN nq) (Dr own w2.heap.size W7.heap.size (.run a b)) a b g o t c v:=by
  have k9:=k8'.trans (Ab.Ai (S:=fun q=> own q= .runs) (below_drewN (Below.refl w8.heap.size w8) nq) (Nat.le_refl _))
  refine hr.kept k9 fun q hq e=> ?_
  by_cases hin:w2.heap.size≤q∧q < W7.heap.size
  ·have:=h2.Eo hin.1
   rw [this] at hq;cases hq
  ·rw [Ch hin,hq] at e;cases e
 refine(Ai3 h9 hx (hoff x hx) ⟨v,g,o,Hu _ _ _,hg,ho,hr7⟩).mono ?_
 rintro e w' ⟨rfl,k,hf⟩
 refine⟨rfl,?_,_,_,hf,rfl,fun q hq=> Ch (by omega)⟩
 have k1:Ab (fun q=> own q≠ .out) w2 W7:=Ab.Ai hB (Nat.le_refl _)
 have k2:Ab (fun q=> own q≠ .out) W7 w8:=k8'.mono fun q hq=> by rw [hq];simp
 have k3:Ab (fun q=> own q≠ .out) w8 (w8.drewN nq):=Ab.Ai (below_drewN (Below.refl w8.heap.size w8) nq) (Nat.le_refl _)
 refine((k1.trans k2).trans k3).trans (k.mono fun q hq=> ?_)
 by_cases hin:w2.heap.size≤q∧q < W7.heap.size
 ·rw [Gu hin] at hq;cases hq
 ·rw [Ch hin] at hq;rw [hq];simp
end
end Go.Proofs.YtbibeionenjmfaaGreatDoor
namespace Go.Proofs.YtbibeionenjmfaaGreatDoor
open Go.RowKit
def Fu (n:Nat) (many:Int) (p:As):Nat:=if 0 < many then n+min many.toNat (p.many - n) else n
theorem Px {n:Nat} {many:Int} {p:As} {L:Nat} (hL:p.many=L) (hn:n≤L):min (n+many.toNat) L=Fu n many p:=by
 unfold Fu
 split <;> omega
section
variable {w0 w w' W:World} {own own':Nat→Ez} {G:Bg} {F F':Ad} {n:Nat} {g:Ec} {o:Ba}
theorem Acp {i c B:Nat} {S:Nat→Prop} {v:Value} (h:B8 w0 w own G F) (hi:InvC F) (hg:G.jg[n]?=some g) (ho:F.Af[n]?=some o) (hr:D8 w B g.ro g.rc g.rs o.fold o.slices o.early (Aq o i) c S v) (hB:g.nb≤B∧w0.heap.size≤B∧B≤w.heap.size) (many:Int) (hmany:many≤9223372036854775807):
 Calls Tryz.prog 81 #[v, .int .i64 many] w fun e w'=> (e= .returned (.bool (decide (min (c+many.toNat) (Aq o i).length=(Aq o i).length)))∧D8 w' B g.ro g.rc g.rs o.fold o.slices o.early (Aq o i) (min (c+many.toNat) (Aq o i).length) (fun q=> S q∨w.heap.size≤q) v)∧Ab S w w':=by
 have hc:=h.js n g o hg ho
 have hf:=hi.Hl n o ho
 have h60:(Aq o i).length≤60:=by rw [Cr];unfold G8;have:=hf.lines;simp;omega
 refine Ago 6 many w hB.2.2 (fun w' b=> ?_) (fun w' b=> ?_) (O6.of (by rw [hc.hd.rv];exact hf.ok)) hr (fun l hl=> by have:=hf.short l (H7 hl);omega) (by omega) hmany
 ·exact(h.gw.later (h.E5.trans (b.mono hB.2.1)) (Nat.le_refl _)).gm
 ·have k:Ab (fun q=> B≤q) w w':=⟨b.os,b.tape,b.output,b.size,fun k _ hk=> b.block k (by omega)⟩
  have:=hc.hd.ru.kept k fun q hq e=> by have:=hq.2;omega
  exact⟨this.sl,this.Y9⟩
theorem Acm {k c B:Nat} {S LS:Nat→Prop} {v:Value} (hi:InvC F) (ho:F.Af[n]?=some o) (hr:Gv w B o.fold (Cd o k) c S LS v) (hB:w0.heap.size≤B∧B≤w.heap.size) (many:Int) (hmany:many≤9223372036854775807):
 Calls Tryz.prog 80 #[v, .int .i64 many] w fun e w'=> (e= .returned (.bool (decide (min (c+many.toNat) (Ae o.fold (Cd o k)).length=(Ae o.fold (Cd o k)).length)))∧Gv w' B o.fold (Cd o k) (min (c+many.toNat) (Ae o.fold (Cd o k)).length) (fun q=> (S q∨w.heap.size≤q)∧q < w'.heap.size) LS v)∧Ab S w w':=
 Agx many w hB.2 hr (by have:=((hi.Hl n o ho).Ym k).1;omega) hmany
set_option maxRecDepth 100000 in
set_option maxHeartbeats 4000000 in
theorem Acq {a b:Nat} {t:Gb} {v:Value} {p:As} (h:B8 w0 w own G F) (hi:InvC F) (ht:An F a b=some t) (hon:t.on=true) (hv:G.rf (B7 a b)=some v) (hp:ofM F t.t=some p) (hat:t.at_≤p.many) (many:Int) (hmany:many≤9223372036854775807):
 Calls Tryz.prog 47 #[v, .int .i64 many] w fun e w'=> e= .returned (.bool (decide (¬ Fu t.at_ many p < p.many)))∧Ab (fun q=> own q= .run a b) w w'∧B8 w0 w' (Dr own w.heap.size w'.heap.size (.run a b)) G (Au F a b {t with at_:=Fu t.at_ many p}):=by
 obtain⟨v',g,o,hv',hg,ho,hr⟩:=h.rr a b t ht hon
 rw [hv] at hv'
 cases hv'
 obtain⟨o',ho',hpl⟩:=Ia hp
 rw [ho] at ho'
 cases ho'
 have hpm:=(hi.part _ o t.t.2.1 t.t.2.2 p ho hpl).many
 obtain⟨⟨n,fo,i⟩,hte⟩:∃ x,x=t.t:=⟨_,rfl⟩
 rw [←hte] at hg ho hr hp hpl hpm
 dsimp only at hg ho hr hp hpl hpm
 cases fo with
 | false=>
   unfold Cf at hr
   rw [if_neg (by simp)] at hr
   obtain⟨B,vm,rfl,hB,hr⟩:=hr
   obtain⟨gp,rfl⟩:=hr.ptr
   obtain⟨W,hW⟩:∃ W,W=w.alloc (.cells #[.pointer (some ⟨gp,0,none⟩), .pointer none] 112):=⟨_,rfl⟩
   have hb:Below w.heap.size w W:=by rw [hW];exact ba w _
   have hx:Bk W w.heap.size [.pointer (some ⟨gp,0,none⟩), .pointer none]:=by rw [hW];exact Bk.new rfl
   have hbs:=hb.size
   have HS:=Aa (Acp (h.later hb) hi hg ho (hr.bd.kept (Ab.Ai (S:=fun _=> False) hb (Nat.le_refl _)) (fun q hq=> id)) ⟨hB.1,hB.2.1,by omega⟩ many hmany)
   have HEND:Hid (∀ w',Ab (fun q=> own q= .run a b∧q < w.heap.size) W w'→D8 w' B g.ro g.rc g.rs o.fold o.slices o.early (Aq o i) (min (t.at_+many.toNat) (Aq o i).length) (fun q=> (own q= .run a b∧q < w.heap.size)∨W.heap.size≤q) (.pointer (some ⟨gp,0,none⟩))→Ab (fun q=> own q= .run a b) w w'∧B8 w0 w' (Dr own w.heap.size w'.heap.size (.run a b)) G (Au F a b {t with at_:=Fu t.at_ many p})):=by
    intro w' k hr'
    have k2:Ab (fun q=> own q= .run a b) w w':=(Ab.Ai (S:=fun q=> own q= .run a b) hb (Nat.le_refl _)).trans (k.mono fun q hq=> hq.1)
    refine⟨k2,h.run k2 ht (by rw [←hte];exact hg) (by rw [←hte];exact ho) hv ?_⟩
    rw [←hte]
    unfold Cf
    rw [if_neg (by simp)]
    refine⟨B,_,rfl,⟨hB.1,hB.2.1,Nat.le_trans hB.2.2 k2.size⟩,?_⟩
    rw [←Px (L:=(Aq o i).length) (by rw [hpm,Cr]) (by rw [Cr,←hpm];exact hat)]
    refine hr'.bd.more fun q hq=> ?_
    rcases hq.1 with e | e
    ·rw [Ch (by omega)];exact e.1
    ·exact Gu ⟨by omega,hq.2⟩
   have HD:Hid (decide (min (t.at_+many.toNat) (Aq o i).length=(Aq o i).length)=decide (¬ Fu t.at_ many p < p.many)):=by
    have h1:p.many=(Aq o i).length:=by rw [hpm,Cr]
    have h2:Fu t.at_ many p≤p.many:=by unfold Fu;split <;> omega
    show _=_
    rw [Px h1 (by omega)]
    exact decide_eq_decide.2 (by omega)
   have x0:=hx.get (j:=0) rfl
   have x1:=hx.get (j:=1) rfl
   clear h hi ht hv hp hat hr hg ho hb hx hB hpl hpm hbs
   go_enter Tryz.func47,Tryz.ntmps47
   go_upto_region 1 with (fail)
   rw [←hW]
   clear hW
   go_wp2_with fail
   refine HS.out.mono ?_
   rintro e w1 ⟨⟨rfl,hr1⟩,k1⟩
   have HF:=Aa (HEND.out w1 k1 hr1)
   rw [HD.out]
   clear HS HEND hr1 k1 x0 x1
   go_wp2
   exact bodyPost_ret (v:= .bool (decide (¬ Fu t.at_ many p < p.many))) (by simp [results,Tryz.results47,go_sem]) rfl ⟨rfl,HF.out⟩
 | true=>
   unfold Cf at hr
   rw [if_pos rfl] at hr
   obtain⟨B,vf,rfl,hB,hr⟩:=hr
   obtain⟨gp,rfl⟩:=hr.ptr
   obtain⟨W,hW⟩:∃ W,W=w.alloc (.cells #[.pointer none, .pointer (some ⟨gp,0,none⟩)] 112):=⟨_,rfl⟩
   have hb:Below w.heap.size w W:=by rw [hW];exact ba w _
   have hx:Bk W w.heap.size [.pointer none, .pointer (some ⟨gp,0,none⟩)]:=by rw [hW];exact Bk.new rfl
   have hbs:=hb.size
   have HS:=Aa (Acm (w0:=w0) (n:=n) hi ho (hr.later hb) ⟨hB.1,by omega⟩ many hmany)
   have hf:=hi.Hl n o ho
   have hk:i < o.slices:=by rw [←hf.Nq];exact(List.getElem?_eq_some_iff.1 hpl).1
   have hgl:(Ae o.fold (Cd o i)).length=p.many:=by rw [hpm,hf.Ll hk];rfl
   have HEND:Hid (∀ w',Ab (fun q=> own q= .run a b) W w'→Gv w' B o.fold (Cd o i) (min (t.at_+many.toNat) (Ae o.fold (Cd o i)).length) (fun q=> (own q= .run a b∨W.heap.size≤q)∧q < w'.heap.size) (fun q=> own q= .run a b) (.pointer (some ⟨gp,0,none⟩))→Ab (fun q=> own q= .run a b) w w'∧B8 w0 w' (Dr own w.heap.size w'.heap.size (.run a b)) G (Au F a b {t with at_:=Fu t.at_ many p})):=by
    intro w' k hr'
    have hlt:∀ q,own q= .run a b→q < w.heap.size:=fun q hq=> (h.lo q (by rw [hq];simp)).2
    have k2:Ab (fun q=> own q= .run a b) w w':=(Ab.Ai (S:=fun q=> own q= .run a b) hb (Nat.le_refl _)).trans k
    refine⟨k2,h.run k2 ht (by rw [←hte];exact hg) (by rw [←hte];exact ho) hv ?_⟩
    rw [←hte]
    unfold Cf
    rw [if_pos rfl]
    refine⟨B,_,rfl,⟨hB.1,Nat.le_trans hB.2 k2.size⟩,?_⟩
    rw [←Px (L:=(Ae o.fold (Cd o i)).length) hgl.symm (by rw [hgl];exact hat)]
    refine hr'.more (fun q hq=> ?_) fun q hq=> ?_
    ·rcases hq.1 with e | e
     ·rw [Ch (by have:=hlt q e;omega)];exact e
     ·exact Gu ⟨by omega,hq.2⟩
    ·rw [Ch (by have:=hlt q hq;omega)];exact hq
   have HD:Hid (decide (min (t.at_+many.toNat) (Ae o.fold (Cd o i)).length=(Ae o.fold (Cd o i)).length)=decide (¬ Fu t.at_ many p < p.many)):=by
    have h2:Fu t.at_ many p≤p.many:=by unfold Fu;split <;> omega
    show _=_
    rw [Px hgl.symm (by omega)]
    exact decide_eq_decide.2 (by omega)
   have x0:=hx.get (j:=0) rfl
   have x1:=hx.get (j:=1) rfl
   clear h hi ht hv hp hat hr hg ho hb hx hB hpl hpm hbs hf hk hgl
   go_enter Tryz.func47,Tryz.ntmps47
   go_upto_region 1 with (fail)
   rw [←hW]
   clear hW
   go_wp2_with fail
   refine HS.out.mono ?_
   rintro e w1 ⟨⟨rfl,hr1⟩,k1⟩
   have HF:=Aa (HEND.out w1 k1 hr1)
   rw [HD.out]
   clear HS HEND hr1 k1 x0 x1
   go_wp2
   exact bodyPost_ret (v:= .bool (decide (¬ Fu t.at_ many p < p.many))) (by simp [results,Tryz.results47,go_sem]) rfl ⟨rfl,HF.out⟩
end
end Go.Proofs.YtbibeionenjmfaaGreatDoor
namespace Go.Proofs.YtbibeionenjmfaaGreatDoor
open Go.RowKit
section
variable {w0 w w' W:World} {own own':Nat→Ez} {G:Bg} {F F':Ad} {n:Nat} {g:Ec} {o:Ba}
def Bu (w0 w:World) (own:Nat→Ez) (G:Bg) (F':Ad) (w':World):Prop:=
 (∃ own' G',B8 w0 w' own' G' F'∧G'.fb=G.fb∧∀ q,q < w.heap.size→own' q=own q)∧Ab (fun q=> own q≠ .out) w w'
set_option maxRecDepth 100000 in
set_option maxHeartbeats 4000000 in
theorem Zo {a b i:Nat} {p:As} (h:B8 w0 w own G F) (hi:InvC F) (ha:a < 4) (hb:b < 3) (hon:∃ t,An F a b=some t) (hoff:∀ t,An F a b=some t→t.on=false) (hg:G.jg[n]?=some g) (ho:F.Af[n]?=some o) (hp:o.parts[i]?=some p) (hst:¬ p.st=2):
 Calls Tryz.prog 44 #[.pointer (some ⟨G.fb,0,none⟩), .agg #[.int .i64 a, .int .i64 b], .agg #[.int .i64 n, .bool false, .int .i64 i]] w fun e w'=> e= .returned .nilIface∧Bu w0 w own G (Ee F a b (n,false,i)) w':=by
 obtain⟨W,hW⟩:∃ W,W=(w.alloc (.cells #[.int .i64 a, .int .i64 b] 60)).alloc (.cells #[.int .i64 n, .bool false, .int .i64 i] 33):=⟨_,rfl⟩
 have hb0:Below w.heap.size w W:=by rw [hW];exact(ba w _).alloc (by simp) _
 have hpb:Bk W w.heap.size [.int .i64 a, .int .i64 b]:=by rw [hW];exact(Bk.new rfl).alloc _
 have htb:Bk W (w.heap.size+1) [.int .i64 n, .bool false, .int .i64 i]:=by
  rw [hW]
  have:=Bk.new (w:=w.alloc (.cells #[.int .i64 a, .int .i64 b] 60)) (cs:= #[.int .i64 n, .bool false, .int .i64 i]) (t:=33) rfl
  simpa using this
 have hW1:=h.later hb0
 obtain⟨g',gb,cap,hg',ej,cn,hjc,hgb⟩:=hW1.Rt ho
 rw [hg] at hg'
 obtain rfl:=Option.some.inj hg'
 have hnl:=(List.getElem?_eq_some_iff.1 ho).1
 have f1:(n:Int) < (F.Af.length:Int):=by omega
 have cj:=hW1.bk.get (j:=3) rfl
 rw [ej] at cj
 have t0:=htb.get (j:=0) rfl
 have t1:=htb.get (j:=1) rfl
 have t2:=htb.get (j:=2) rfl
 have x5:=hjc.hd.bk.get (j:=5) rfl
 have HBG:=Aa fun nq=> Ri (fold:=false) (hW1.later (below_drewN (Below.refl _ _) nq)) hg ho hp (by unfold Ku;simp [hst])
 have HW:=Aa hW
 have HH:=Aa h
 have HWS:Hid (w.heap.size+2≤W.heap.size):=by rw [hW];show _≤_;simp
 have HB0:=Aa hb0
 have HPB:=Aa hpb
 have HTB:=Aa htb
 clear hW h hb0 hpb htb hW1 hjc ej hg'
 go_enter Tryz.func44,Tryz.ntmps44
 go_upto_region 1 with (fail)
 rw [←HW.out]
 clear HW
 go_quiet (fail)
 go_upto_region 2 with (fail)
 refine Bm 8 (by kernel_rfl) (by kernel_rfl) ?_
 simp only [List.take_succ_cons,List.take_zero,List.drop_succ_cons,List.drop_zero]
 repeat still_step
 refine wpStill_nil ?_
 go_wp2_with fail
 refine(HBG.out (nq+1)).mono ?_
 rintro e w2 ⟨rfl,k2,h2⟩
 have hk2:Ab (fun q=> own q= .Mc n) W w2:=(Ab.Ai (S:=fun q=> own q= .Mc n) (below_drewN (Below.refl W.heap.size W) (nq+1)) (Nat.le_refl _)).trans k2
 have ho0:own w.heap.size= .out:=HH.out.Eo (Nat.le_refl _)
 have ho1:own (w.heap.size+1)= .out:=HH.out.Eo (by omega)
 have hpb2:=HPB.out.kept hk2 (by rw [ho0];simp)
 have htb2:=HTB.out.kept hk2 (by rw [ho1];simp)
 obtain⟨F2,hF2⟩:∃ F2,F2=setOf F (n,false,i) fun p=> {p with st:=1}:=⟨_,rfl⟩
 have h2':B8 w0 w2 own G F2:=by rw [hF2];exact h2
 obtain⟨o2,ho2⟩:∃ o2,o2=A5 o false i fun p=> {p with st:=1}:=⟨_,rfl⟩
 have hoo:F2.Af[n]?=some o2:=by
  rw [hF2,ho2]
  show(F.Af.modify n _)[n]?=_
  rw [Ht _ ho]
  exact List.getElem?_set_self hnl
 have hs2:Ed o o2:=by rw [ho2];exact Ed.A5 o false i _
 have hi2:InvC F2:=by rw [hF2];exact Afj hi _
 have hc2:=h2'.js n g o2 hg hoo
 obtain⟨p2,hp2,hps⟩:∃ p2,(Eb o2 false)[i]?=some p2∧p2.saved=p.saved:=by
  refine⟨{p with st:=1},?_,rfl⟩
  rw [ho2,Lz,if_pos ⟨rfl,rfl⟩]
  show(o.parts[i]?).map _=_
  rw [hp];rfl
 obtain⟨sv,is,hlk1,hlk2,his0,his1⟩:=hc2.U8 hp2
 rw [hps] at his0 his1
 have hil:i < o2.parts.length:=(List.getElem?_eq_some_iff.1 hp2).1
 obtain⟨pa,pc,hpv,hps2,_⟩:=hc2.Y5
 obtain⟨pb,poff,lv,ov,rfl,hpblt,hplk,y0,y1⟩:=hps2.part (k:=i) (by rw [hc2.pt.pn];exact hil)
 obtain⟨la,lc,rfl,hsl,hln,_⟩:=hc2.pt.li i lv ov hplk
 obtain⟨W3,hW3⟩:∃ W3,W3=w2.alloc (.cells #[.pointer none, .pointer none] 112):=⟨_,rfl⟩
 have hb3:Below w2.heap.size w2 W3:=by rw [hW3];exact ba w2 _
 have hrb:Bk W3 w2.heap.size [.pointer none, .pointer none]:=by rw [hW3];exact Bk.new rfl
 have h3:=h2'.later hb3
 have hlook:∀ nq,(Instr.lookup 99 (.map (some g.mb)) (.agg #[.int .i64 n, .bool false, .int .i64 i]) true).run Tryz.prog (W3.drewN nq)= .ok (.tuple #[.string sv, .bool is]) (W3.drewN nq):=fun nq=> by
  have h4:=((h3.later (below_drewN (Below.refl _ _) nq)).js n g o2 hg hoo).Xh false i (by have:=hi.jl;omega) (by have:=(hi2.Hl n o2 hoo).Nl;omega)
  rw [hlk1,hlk2] at h4
  exact h4
 have x8:=cell_later hb3 (hc2.hd.bk.get (j:=8) rfl)
 have t0:=cell_later hb3 (htb2.get (j:=0) rfl)
 have t1:=cell_later hb3 (htb2.get (j:=1) rfl)
 have t2:=cell_later hb3 (htb2.get (j:=2) rfl)
 have x1:=cell_later hb3 (hc2.hd.bk.get (j:=1) rfl)
 have x2:=cell_later hb3 (hc2.hd.bk.get (j:=2) rfl)
 have x3:=cell_later hb3 (hc2.hd.bk.get (j:=3) rfl)
 have x4:=cell_later hb3 (hc2.hd.bk.get (j:=4) rfl)
 have x6:=cell_later hb3 (hc2.hd.bk.get (j:=6) rfl)
 rw [hpv] at x6
 have q0:=cell_later hb3 y0
 have f2:(i:Int) < (o2.parts.length:Int):=by omega
 have HK2:=Aa hk2
 have HF2:=Aa hF2
 have H2:=Aa h2'
 have H3:=Aa h3
 have HW3:=Aa hW3
 have HB3:=Aa hb3
 have HRB:=Aa hrb
 have HPB2:=Aa (hpb2.later hb3)
 have HTB4:=Aa (htb2.later hb3)
 have HSL:=Aa (hsl.later hb3 (Nat.le_refl _))
 have HI2:=Aa hi2
 have HOO:=Aa hoo
 have HIS:=Aa (And.intro his0 his1)
 have HLL:=Aa (Cr o2 i)
 have HP2:=Aa hp2
 have HPS:=Aa hps
 clear hk2 hF2 h2 h2' h3 hW3 hb3 hrb hpb2 htb2 hsl hi2 hoo his0 his1 hlk1 hlk2 hp2 hps y0 y1 hplk hps2 hpblt hc2 hpv k2 ho2 x5 cn cj f1 hgb HBG HPB HTB hs2 ho0 ho1
 go_upto_region 6 with (fail)
 rw [←HW3.out]
 clear HW3
 go_quiet (fail)
 go_upto_region 17 with (fail)
 have b4:Below W3.heap.size W3 (W3.drewN nq):=below_drewN (Below.refl _ _) nq
 generalize W3.drewN nq=W4 at *
 replace t2:=cell_later b4 t2
 replace t0:=cell_later b4 t0
 replace t1:=cell_later b4 t1
 replace x1:=cell_later b4 x1
 replace x2:=cell_later b4 x2
 replace x3:=cell_later b4 x3
 replace x4:=cell_later b4 x4
 replace x6:=cell_later b4 x6
 replace q0:=cell_later b4 q0
 replace HRB:=Aa (HRB.out.later b4)
 replace HPB2:=Aa (HPB2.out.later b4)
 replace HTB4:=Aa (HTB4.out.later b4)
 replace HSL:=Aa (HSL.out.later b4 (Nat.le_refl _))
 replace HB3:=Aa (HB3.out.trans (b4.mono HB3.out.size))
 replace H3:=Aa (H3.out.later b4)
 clear b4 hlook x8
 have HMN:=Aa fun w' (k:Below W4.heap.size W4 w')=> Agf (H3.out.later k) HI2.out hg HOO.out (HSL.out.later k (Nat.le_refl _)) hln
 have HLK:Hid (w2.heap.size < W4.heap.size):=HRB.out.lt
 refine wp_region_noPanic ?_
 refine Al (S:=(fun w'=> Below W4.heap.size W4 w')) (E:= [18,19]) (by kernel_rfl) ?_ (fun hHeld=> ?_)
 ·(first | exact(Below.refl _ _).drew | exact hHeld.trans (b1.mono hHeld.size) | exact hHeld)
 try dsimp only [List.size_toArray,List.length_cons,List.length_nil,Nat.reduceAdd]
 refine hP 0 (v:=?_) rfl (by kernel_rfl) (by rfl) ?_ ?_
 rotate_left
 focus (intro w;go_simp;try with_reducible rfl)
 refine hP 4 (v:=?_) rfl (by kernel_rfl) (by rfl) ?_ ?_
 rotate_left
 focus (intro w;go_simp;try with_reducible rfl)
 refine hP 8 (v:=?_) rfl (by kernel_rfl) (by rfl) ?_ ?_
 rotate_left
 focus (intro w;go_simp;try with_reducible rfl)
 refine hP 1 (v:=?_) rfl (by kernel_rfl) (by rfl) ?_ ?_
 rotate_left
 focus (intro w;go_simp;try with_reducible rfl)
 refine hP 5 (v:=?_) rfl (by kernel_rfl) (by rfl) ?_ ?_
 rotate_left
 focus (intro w;go_simp;try with_reducible rfl)
 refine hT 9 [[9], [9]] (v:=?_) rfl (by kernel_rfl) (by rfl) (by assumption) ?_ ?_
 rotate_left
 focus (intro w hSw;(try dsimp only at hSw);(have r1:=cell_later hSw x1;have r2:=cell_later hSw x2;have r3:=cell_later hSw x3;have r4:=cell_later hSw x4;have r6:=cell_later hSw x6;have rq:=cell_later hSw q0;have rt:=cell_later hSw t2);go_simp;try with_reducible rfl)
 refine hP 2 (v:=?_) rfl (by kernel_rfl) (by rfl) ?_ ?_
 rotate_left
 focus (intro w;go_simp;try with_reducible rfl)
 refine hP 6 (v:=?_) rfl (by kernel_rfl) (by rfl) ?_ ?_
 rotate_left
 focus (intro w;go_simp;try with_reducible rfl)
 refine hT 3 [[3], [3]] (v:=?_) rfl (by kernel_rfl) (by rfl) (by assumption) ?_ ?_
 rotate_left
 focus (intro w hSw;(try dsimp only at hSw);(have r1:=cell_later hSw x1;have r2:=cell_later hSw x2;have r3:=cell_later hSw x3;have r4:=cell_later hSw x4;have r6:=cell_later hSw x6;have rq:=cell_later hSw q0;have rt:=cell_later hSw t2);go_simp;try with_reducible rfl)
 refine hT 7 [[7], [7]] (v:=?_) rfl (by kernel_rfl) (by rfl) (by assumption) ?_ ?_
 rotate_left
 focus (intro w hSw;(try dsimp only at hSw);(have r1:=cell_later hSw x1;have r2:=cell_later hSw x2;have r3:=cell_later hSw x3;have r4:=cell_later hSw x4;have r6:=cell_later hSw x6;have rq:=cell_later hSw q0;have rt:=cell_later hSw t2);go_simp;try with_reducible rfl)
 refine hP 10 (v:=?_) rfl (by kernel_rfl) (by rfl) ?_ ?_
 rotate_left
 focus (intro w;go_simp;try with_reducible rfl)
 refine hP 11 (v:=?_) rfl (by kernel_rfl) (by rfl) ?_ ?_
 rotate_left
 focus (intro w;go_simp;try with_reducible rfl)
 refine hT 12 [[12], [12]] (v:=?_) rfl (by kernel_rfl) (by rfl) (by assumption) ?_ ?_
 rotate_left
 focus (intro w hSw;(try dsimp only at hSw);(have r1:=cell_later hSw x1;have r2:=cell_later hSw x2;have r3:=cell_later hSw x3;have r4:=cell_later hSw x4;have r6:=cell_later hSw x6;have rq:=cell_later hSw q0;have rt:=cell_later hSw t2);go_simp;try with_reducible rfl)
 try simp only [Act.put,List.setIfInBounds_toArray,List.set_cons_zero,List.set_cons_succ]
 refine hR [13] (by kernel_rfl) (by simp) (Ac.cons rfl (fun KH hKH=> ?_) .nil)
 go_simp
 (go_at_call 75;refine(HMN.out _ hHeld).mono ?_;rintro e w5 ⟨⟨vm,rfl,hr5⟩,b1⟩;obtain⟨gm,rfl⟩:=hr5.ptr)
 try go_wp2_with fail
 refine hKH.out _ _ ?_ (fun hNew=> ?_)
 ·(first | exact(Below.refl _ _).drew | exact hHeld.trans (b1.mono hHeld.size) | exact hHeld)
 clear hKH KH hHeld
 have hHeld:=hNew
 clear hNew
 try simp only [Act.put,List.setIfInBounds_toArray,List.set_cons_zero,List.set_cons_succ]
 refine hP 14 (v:=?_) rfl (by kernel_rfl) (by rfl) ?_ ?_
 rotate_left
 focus (intro w;go_simp;try with_reducible rfl)
 refine hP 15 (v:=?_) rfl (by kernel_rfl) (by rfl) ?_ ?_
 rotate_left
 focus (intro w;go_simp;try with_reducible rfl)
 refine hP 16 (v:=?_) rfl (by kernel_rfl) (by rfl) ?_ ?_
 rotate_left
 focus (intro w;go_simp;try with_reducible rfl)
 refine hP 17 (v:=?_) rfl (by kernel_rfl) (by rfl) ?_ ?_
 rotate_left
 focus (intro w;go_simp;try with_reducible rfl)
 try simp only [Act.put,List.setIfInBounds_toArray,List.set_cons_zero,List.set_cons_succ]
 refine hR [18] (by kernel_rfl) (by simp) (Ac.Bb rfl (by kernel_rfl) (fun KH hKH=> ?_) .nil)
 have HBX:=Aa hHeld
 have hrb5:=HRB.out.later hHeld
 have s0:=hrb5.get (j:=0) rfl
 have z0:=hrb5.fz 0
 go_simp
 refine hKH.out _ _ ?_
 clear hKH KH
 try clear hHeld
 try simp only [Act.put,List.setIfInBounds_toArray,List.set_cons_zero,List.set_cons_succ]
 refine hR [19] (by kernel_rfl) (by simp) (Ac.Bb rfl (by kernel_rfl) (fun KH hKH=> ?_) .nil)
 go_simp
 refine hKH.out _ _ ?_
 clear hKH KH
 try clear hHeld
 refine Ak (by kernel_rfl) ?_ _
 refine NoPanic.normal ?_
 have HEND:Hid (∀ (w9:World) (own9:Nat→Ez) (G9:Bg),B8 w0 w9 own9 G9 (Au F2 a b ⟨true,(n,false,i),p.saved.toNat⟩)→G9.fb=G.fb→(∀ q,q < w2.heap.size→own9 q=own q)→Ab (fun q=> own q≠ .out) w2 w9→Bu w0 w own G (Ee F a b (n,false,i)) w9):=fun w9 own9 G9 h9 e9 a9 k9=> by
  have hbm:Ee F a b (n,false,i)=Au F2 a b ⟨true,(n,false,i),p.saved.toNat⟩:=by
   unfold Ee
   rw [←HF2.out]
   have:ofM F (n,false,i)=some p:=by unfold ofM;rw [ho];exact hp
   rw [this];rfl
  rw [hbm]
  have hw2:w.heap.size≤w2.heap.size:=Nat.le_trans HB0.out.size HK2.out.size
  refine⟨⟨own9,G9,h9,e9,fun q hq=> a9 q (by omega)⟩,?_⟩
  exact((Ab.Ai (S:=fun q=> own q≠ .out) HB0.out (Nat.le_refl _)).trans (HK2.out.mono fun q hq=> by rw [hq];simp)).trans k9
 have HNR:Hid (¬ own w.heap.size= .runs∧¬ own (w.heap.size+1)= .runs):=by
  rw [HH.out.Eo (Nat.le_refl _),HH.out.Eo (Nat.le_succ _)]
  exact⟨by simp,by simp⟩
 have HON:Hid (∃ x,An F2 a b=some x):=by rw [HF2.out];exact hon
 have HOFF:Hid (∀ x,An F2 a b=some x→x.on=false):=by rw [HF2.out];exact hoff
 obtain⟨W6,hW6⟩:∃ W6,W6=w5.setCell ⟨w2.heap.size,0,none⟩ (.pointer (some ⟨gm,0,none⟩)):=⟨_,rfl⟩
 have k6:Ab (fun q=> q=w2.heap.size) w5 W6:=by rw [hW6];exact(Ab.refl (fun q=> q=w2.heap.size) w5).setCell (p:=⟨w2.heap.size,0,none⟩) rfl _
 have hb6:Below w2.heap.size w2 W6:=by
  rw [hW6]
  exact(HB3.out.trans (HBX.out.mono HB3.out.size)).setCell (p:=⟨w2.heap.size,0,none⟩) (Nat.le_refl _) _
 have hlw:w.heap.size+1 < w2.heap.size:=by
  have h1:=HTB4.out.lt
  have h2:w.heap.size+2≤W.heap.size:=HWS.out
  have h3:=HK2.out.size
  omega
 have hrb6:Bk W6 w2.heap.size [.pointer (some ⟨gm,0,none⟩), .pointer none]:=by rw [hW6];exact hrb5.set (k:=0) (u:= .pointer none) _ rfl
 have hp6:=(HPB2.out.later HBX.out).kept k6 (by omega)
 have ht6:=(HTB4.out.later HBX.out).kept k6 (by omega)
 have hm6:=(hr5.kept k6 fun q hq e=> by have h1:=hq.1;have h2:W4.drew.heap.size=W4.heap.size:=rfl;have h3:=HLK.out;omega)
 have hB6:g.nb≤W4.drew.heap.size∧w0.heap.size≤W4.drew.heap.size∧W4.drew.heap.size≤W6.heap.size:=by
  have h1:g.nb≤W4.heap.size:=(H3.out.js n g o2 hg HOO.out).hd.nb
  have h2:w0.heap.size≤W4.heap.size:=H3.out.E5.size
  have h3:=HBX.out.size
  have h4:=k6.size
  exact⟨h1,h2,Nat.le_trans h3 h4⟩
 have hS6:∀ q,(W4.drew.heap.size≤q∧q < w5.heap.size)→w2.heap.size≤q∧q < W6.heap.size:=fun q hq=> by
  have h1:W4.drew.heap.size=W4.heap.size:=rfl
  have h2:=HLK.out
  have h3:=k6.size
  omega
 rw [←hW6]
 clear hW6 k6 hrb5 s0 z0 b1 hr5 HBX HMN HPB2 HTB4 HRB t0 t1 t2 x1 x2 x3 x4 x6 q0 HB3 H3 HSL
 have HB6:=Aa hb6
 have HR6:=Aa hrb6
 have HP6:=Aa hp6
 have HT6:=Aa ht6
 have HM6:=Aa hm6
 have HBB:=Aa hB6
 have HS6:=Aa hS6
 have hr60:=hrb6.get (j:=0) rfl
 clear hb6 hrb6 hp6 ht6 hm6 hB6 hS6
 cases is with
 | false=>
   have hc0:p.saved.toNat=0:=by have:=HIS.out.1 rfl;omega
   rw [hc0] at HEND
   have HRI:Hid (Cf w0 W6 (Dr own w2.heap.size W6.heap.size (.run a b)) a b g o2 (n,false,i) 0 (.agg #[.pointer (some ⟨gm,0,none⟩), .pointer none])):=Cf.ofM HM6.out HBB.out HS6.out
   have HB7:=HB6
   have HR7:=HR6
   have HP7:=HP6
   have HT7:=HT6
   clear HB6 HR6 HP6 HT6 HM6 HBB HS6 hr60 HIS HLK hc0
   obtain⟨w8,hrun8,k8,cb8,hput⟩:=Li H2.out HB7.out ha hb HON.out HOFF.out hg HOO.out HRI.out
   have HPUT:=Aa (hput 1)
   have hp0:=HP7.out.get (j:=0) rfl
   have hp1:=HP7.out.get (j:=1) rfl
   have ht0:=HT7.out.get (j:=0) rfl
   have ht1:=HT7.out.get (j:=1) rfl
   have ht2:=HT7.out.get (j:=2) rfl
   have hr0:=HR7.out.get (j:=0) rfl
   have hr1:=HR7.out.get (j:=1) rfl
   have cm7:=((H2.out.later HB7.out).bk.get (j:=2) rfl)
   have hp8:=HP7.out.kept k8 HNR.out.1
   have ht8:=HT7.out.kept k8 HNR.out.2
   have sp0:=hp8.get (j:=0) rfl
   have sp1:=hp8.get (j:=1) rfl
   have st0:=ht8.get (j:=0) rfl
   have st1:=ht8.get (j:=1) rfl
   have st2:=ht8.get (j:=2) rfl
   have HRUN8:=Aa hrun8
   clear hput k8 hp8 ht8 hrun8
   go_upto_region 20 with (fail)
   refine Bm 6 (by kernel_rfl) (by kernel_rfl) ?_
   simp only [List.take_succ_cons,List.take_zero,List.drop_succ_cons,List.drop_zero]
   repeat still_step
   refine wpStill_nil ?_
   go_wp2_with (at_mapUpdate;refine Hc rfl _ _ _ 87 rfl G.mb (B7 a b) _ rfl rfl rfl HRUN8.out ?_)
   clear hp0 hp1 ht0 ht1 ht2 hr0 hr1 cm7 HRUN8
   go_upto_region 21 with (fail)
   refine Bm 6 (by kernel_rfl) (by kernel_rfl) ?_
   simp only [List.take_succ_cons,List.take_zero,List.drop_succ_cons,List.drop_zero]
   repeat still_step
   refine wpStill_nil ?_
   go_wp2_with fail
   refine HPUT.out.mono ?_
   rintro e w9 ⟨rfl,k9,own9,G9,h9,e9,a9⟩
   have HFIN:=Aa (HEND.out w9 own9 G9 h9 e9 a9 k9)
   clear k9 h9 e9 a9 HPUT
   go_wp2
   go_ret
   exact⟨rfl,HFIN.out⟩
 | true=>
   obtain⟨hs0,hss⟩:=HIS.out.2 rfl
   have hsv:sv=tx (Gg p.saved.toNat (Bf o2.rs o2.fold ((Aq o2 i).take p.saved.toNat))):=by
    have:=hss
    unfold Oc at this
    simpa using this
   subst hsv
   have hmle:p.saved.toNat≤(Aq o2 i).length:=by
    have hpk:=HI2.out.part n o2 false i _ HOO.out HP2.out
    have h1:=hpk.saved.2
    have h2:=hpk.many
    rw [HPS.out] at h1
    rw [HLL.out,←h2]
    omega
   have HLO:=Aa (Aco (H2.out.later HB6.out) HI2.out hg HOO.out HM6.out HBB.out.2.2 hmle)
   generalize tx (Gg p.saved.toNat (Bf o2.rs o2.fold ((Aq o2 i).take p.saved.toNat)))=sv at *
   clear hmle hss hs0
   go_wp2_with fail
   refine HLO.out.mono ?_
   rintro e W7 ⟨⟨rfl,hm7⟩,k7⟩
   have hb7:Below w2.heap.size w2 W7:=HB6.out.trans (k7.below (fun q hq=> (HS6.out q hq).1) HB6.out.size)
   have h45:W4.drew.heap.size=W4.heap.size:=rfl
   have HLKo:=HLK.out
   have HRI:Hid (Cf w0 W7 (Dr own w2.heap.size W7.heap.size (.run a b)) a b g o2 (n,false,i) p.saved.toNat (.agg #[.pointer (some ⟨gm,0,none⟩), .pointer none])):=by
    refine Cf.ofM hm7.bd ⟨HBB.out.1,HBB.out.2.1,Nat.le_trans HBB.out.2.2 k7.size⟩ fun q hq=> ⟨?_,hq.2⟩
    rcases hq.1 with h1 | h1
    ·exact(HS6.out q h1).1
    ·exact Nat.le_trans HB6.out.size h1
   have HR7:=Aa (HR6.out.kept k7 fun e=> by have:=e.1;omega)
   have HP7:=Aa (HP6.out.kept k7 fun e=> by have:=e.1;omega)
   have HT7:=Aa (HT6.out.kept k7 fun e=> by have:=e.1;omega)
   have HB7:=Aa hb7
   clear HB6 HR6 HP6 HT6 HM6 HBB HS6 hr60 HIS HLK hb7 h45 HLKo k7 hm7 HLO
   obtain⟨w8,hrun8,k8,cb8,hput⟩:=Li H2.out HB7.out ha hb HON.out HOFF.out hg HOO.out HRI.out
   have HPUT:=Aa (hput 1)
   have hp0:=HP7.out.get (j:=0) rfl
   have hp1:=HP7.out.get (j:=1) rfl
   have ht0:=HT7.out.get (j:=0) rfl
   have ht1:=HT7.out.get (j:=1) rfl
   have ht2:=HT7.out.get (j:=2) rfl
   have hr0:=HR7.out.get (j:=0) rfl
   have hr1:=HR7.out.get (j:=1) rfl
   have cm7:=((H2.out.later HB7.out).bk.get (j:=2) rfl)
   have hp8:=HP7.out.kept k8 HNR.out.1
   have ht8:=HT7.out.kept k8 HNR.out.2
   have sp0:=hp8.get (j:=0) rfl
   have sp1:=hp8.get (j:=1) rfl
   have st0:=ht8.get (j:=0) rfl
   have st1:=ht8.get (j:=1) rfl
   have st2:=ht8.get (j:=2) rfl
   have HRUN8:=Aa hrun8
   clear hput k8 hp8 ht8 hrun8
   go_upto_region 20 with (fail)
   refine Bm 6 (by kernel_rfl) (by kernel_rfl) ?_
   simp only [List.take_succ_cons,List.take_zero,List.drop_succ_cons,List.drop_zero]
   repeat still_step
   refine wpStill_nil ?_
   go_wp2_with (at_mapUpdate;refine Hc rfl _ _ _ 87 rfl G.mb (B7 a b) _ rfl rfl rfl HRUN8.out ?_)
   clear hp0 hp1 ht0 ht1 ht2 hr0 hr1 cm7 HRUN8
   go_upto_region 21 with (fail)
   refine Bm 6 (by kernel_rfl) (by kernel_rfl) ?_
   simp only [List.take_succ_cons,List.take_zero,List.drop_succ_cons,List.drop_zero]
   repeat still_step
   refine wpStill_nil ?_
   go_wp2_with fail
   refine HPUT.out.mono ?_
   rintro e w9 ⟨rfl,k9,own9,G9,h9,e9,a9⟩
   have HFIN:=Aa (HEND.out w9 own9 G9 h9 e9 a9 k9)
   clear k9 h9 e9 a9 HPUT
   go_wp2
   go_ret
   exact⟨rfl,HFIN.out⟩
end
end Go.Proofs.YtbibeionenjmfaaGreatDoor
namespace Go.Proofs.YtbibeionenjmfaaGreatDoor
open Go.RowKit
section
variable {w0 w w' W:World} {own own':Nat→Ez} {G:Bg} {F F':Ad} {n:Nat} {g:Ec} {o:Ba}
set_option maxRecDepth 100000 in
set_option maxHeartbeats 4000000 in
theorem Zn {a b i:Nat} {p:As} (h:B8 w0 w own G F) (hi:InvC F) (ha:a < 4) (hb:b < 3) (hon:∃ t,An F a b=some t) (hoff:∀ t,An F a b=some t→t.on=false) (hg:G.jg[n]?=some g) (ho:F.Af[n]?=some o) (hp:o.Bw[i]?=some p) (hst:¬ p.st=2) (hall:Ig o.parts=true):
 Calls Tryz.prog 44 #[.pointer (some ⟨G.fb,0,none⟩), .agg #[.int .i64 a, .int .i64 b], .agg #[.int .i64 n, .bool true, .int .i64 i]] w fun e w'=> e= .returned .nilIface∧Bu w0 w own G (Ee F a b (n,true,i)) w':=by
 obtain⟨W,hW⟩:∃ W,W=(w.alloc (.cells #[.int .i64 a, .int .i64 b] 60)).alloc (.cells #[.int .i64 n, .bool true, .int .i64 i] 33):=⟨_,rfl⟩
 have hb0:Below w.heap.size w W:=by rw [hW];exact(ba w _).alloc (by simp) _
 have hpb:Bk W w.heap.size [.int .i64 a, .int .i64 b]:=by rw [hW];exact(Bk.new rfl).alloc _
 have htb:Bk W (w.heap.size+1) [.int .i64 n, .bool true, .int .i64 i]:=by
  rw [hW]
  have:=Bk.new (w:=w.alloc (.cells #[.int .i64 a, .int .i64 b] 60)) (cs:= #[.int .i64 n, .bool true, .int .i64 i]) (t:=33) rfl
  simpa using this
 have hW1:=h.later hb0
 obtain⟨g',gb,cap,hg',ej,cn,hjc,hgb⟩:=hW1.Rt ho
 rw [hg] at hg'
 obtain rfl:=Option.some.inj hg'
 have hnl:=(List.getElem?_eq_some_iff.1 ho).1
 have f1:(n:Int) < (F.Af.length:Int):=by omega
 have cj:=hW1.bk.get (j:=3) rfl
 rw [ej] at cj
 have t0:=htb.get (j:=0) rfl
 have t1:=htb.get (j:=1) rfl
 have t2:=htb.get (j:=2) rfl
 have x5:=hjc.hd.bk.get (j:=5) rfl
 have HBG:=Aa fun nq=> Ri (fold:=true) (hW1.later (below_drewN (Below.refl _ _) nq)) hg ho hp (by unfold Ku;rw [Jq,←Yh];simp [hst,hall])
 have HW:=Aa hW
 have HH:=Aa h
 have HWS:Hid (w.heap.size+2≤W.heap.size):=by rw [hW];show _≤_;simp
 have HB0:=Aa hb0
 have HPB:=Aa hpb
 have HTB:=Aa htb
 clear hW h hb0 hpb htb hW1 hjc ej hg'
 go_enter Tryz.func44,Tryz.ntmps44
 go_upto_region 1 with (fail)
 rw [←HW.out]
 clear HW
 go_quiet (fail)
 go_upto_region 2 with (fail)
 refine Bm 8 (by kernel_rfl) (by kernel_rfl) ?_
 simp only [List.take_succ_cons,List.take_zero,List.drop_succ_cons,List.drop_zero]
 repeat still_step
 refine wpStill_nil ?_
 go_wp2_with fail
 refine(HBG.out (nq+1)).mono ?_
 rintro e w2 ⟨rfl,k2,h2⟩
 have hk2:Ab (fun q=> own q= .Mc n) W w2:=(Ab.Ai (S:=fun q=> own q= .Mc n) (below_drewN (Below.refl W.heap.size W) (nq+1)) (Nat.le_refl _)).trans k2
 have ho0:own w.heap.size= .out:=HH.out.Eo (Nat.le_refl _)
 have ho1:own (w.heap.size+1)= .out:=HH.out.Eo (by omega)
 have hpb2:=HPB.out.kept hk2 (by rw [ho0];simp)
 have htb2:=HTB.out.kept hk2 (by rw [ho1];simp)
 obtain⟨F2,hF2⟩:∃ F2,F2=setOf F (n,true,i) fun p=> {p with st:=1}:=⟨_,rfl⟩
 have h2':B8 w0 w2 own G F2:=by rw [hF2];exact h2
 obtain⟨o2,ho2⟩:∃ o2,o2=A5 o true i fun p=> {p with st:=1}:=⟨_,rfl⟩
 have hoo:F2.Af[n]?=some o2:=by
  rw [hF2,ho2]
  show(F.Af.modify n _)[n]?=_
  rw [Ht _ ho]
  exact List.getElem?_set_self hnl
 have hs2:Ed o o2:=by rw [ho2];exact Ed.A5 o true i _
 have hi2:InvC F2:=by rw [hF2];exact Afj hi _
 have hc2:=h2'.js n g o2 hg hoo
 obtain⟨p2,hp2,hps⟩:∃ p2,(Eb o2 true)[i]?=some p2∧p2.saved=p.saved:=by
  refine⟨{p with st:=1},?_,rfl⟩
  rw [ho2,Lz,if_pos ⟨rfl,rfl⟩]
  show(o.Bw[i]?).map _=_
  rw [hp];rfl
 obtain⟨sv,is,hlk1,hlk2,his0,his1⟩:=hc2.U8 hp2
 rw [hps] at his0 his1
 have hil:i < o2.slices:=by
  rw [←(hi2.Hl n o2 hoo).Nq]
  exact(List.getElem?_eq_some_iff.1 hp2).1
 have hall2:∀ (j:Nat) p,o2.parts[j]?=some p→p.st=2:=fun j p hj=> by
  have h1:o2.parts=o.parts:=by rw [ho2];rfl
  rw [h1] at hj
  unfold Ig at hall
  rw [List.all_eq_true] at hall
  simpa using hall p (List.mem_of_getElem? hj)
 obtain⟨pa,pc,hpv,hps2,_⟩:=hc2.Y5
 obtain⟨W3,hW3⟩:∃ W3,W3=w2.alloc (.cells #[.pointer none, .pointer none] 112):=⟨_,rfl⟩
 have hb3:Below w2.heap.size w2 W3:=by rw [hW3];exact ba w2 _
 have hrb:Bk W3 w2.heap.size [.pointer none, .pointer none]:=by rw [hW3];exact Bk.new rfl
 have h3:=h2'.later hb3
 have hlook:∀ nq,(Instr.lookup 99 (.map (some g.mb)) (.agg #[.int .i64 n, .bool true, .int .i64 i]) true).run Tryz.prog (W3.drewN nq)= .ok (.tuple #[.string sv, .bool is]) (W3.drewN nq):=fun nq=> by
  have h4:=((h3.later (below_drewN (Below.refl _ _) nq)).js n g o2 hg hoo).Xh true i (by have:=hi.jl;omega) (by have:=(hi2.Hl n o2 hoo).Afy;omega)
  rw [hlk1,hlk2] at h4
  exact h4
 have x8:=cell_later hb3 (hc2.hd.bk.get (j:=8) rfl)
 have t0:=cell_later hb3 (htb2.get (j:=0) rfl)
 have t1:=cell_later hb3 (htb2.get (j:=1) rfl)
 have t2:=cell_later hb3 (htb2.get (j:=2) rfl)
 have x1:=cell_later hb3 (hc2.hd.bk.get (j:=1) rfl)
 have x2:=cell_later hb3 (hc2.hd.bk.get (j:=2) rfl)
 have x3:=cell_later hb3 (hc2.hd.bk.get (j:=3) rfl)
 have x4:=cell_later hb3 (hc2.hd.bk.get (j:=4) rfl)
 have x6:=cell_later hb3 (hc2.hd.bk.get (j:=6) rfl)
 rw [hpv] at x6
 have HK2:=Aa hk2
 have HF2:=Aa hF2
 have H2:=Aa h2'
 have H3:=Aa h3
 have HW3:=Aa hW3
 have HB3:=Aa hb3
 have HRB:=Aa hrb
 have HPB2:=Aa (hpb2.later hb3)
 have HTB4:=Aa (htb2.later hb3)
 have HI2:=Aa hi2
 have HOO:=Aa hoo
 have HIS:=Aa (And.intro his0 his1)
 have HALL:=Aa hall2
 have HPV:=Aa hpv
 have HIL:=Aa hil
 have HP2:=Aa hp2
 have HPS:=Aa hps
 clear hk2 hF2 h2 h2' h3 hW3 hb3 hrb hpb2 htb2 hi2 hoo his0 his1 hlk1 hlk2 hp2 hps hps2 hc2 hpv k2 ho2 x5 cn cj f1 hgb HBG HPB HTB hs2 ho0 ho1 hall2 hil
 go_upto_region 6 with (fail)
 rw [←HW3.out]
 clear HW3
 go_quiet (fail)
 have b4:Below W3.heap.size W3 (W3.drewN nq):=below_drewN (Below.refl _ _) nq
 generalize W3.drewN nq=W4 at *
 replace t2:=cell_later b4 t2
 replace t0:=cell_later b4 t0
 replace t1:=cell_later b4 t1
 replace x2:=cell_later b4 x2
 replace x6:=cell_later b4 x6
 replace HRB:=Aa (HRB.out.later b4)
 replace HPB2:=Aa (HPB2.out.later b4)
 replace HTB4:=Aa (HTB4.out.later b4)
 replace HB3:=Aa (HB3.out.trans (b4.mono HB3.out.size))
 replace H3:=Aa (H3.out.later b4)
 clear b4 hlook x8 x1 x3 x4
 have HLK:Hid (w2.heap.size < W4.heap.size):=HRB.out.lt
 have hf2:=HI2.out.Hl n o2 HOO.out
 have HNP:=Aa hf2.Abs
 have HP60:=Aa hf2.Nl
 have HC4:=Aa (H3.out.js n g o2 hg HOO.out)
 have hnp60:=hf2.Nl
 clear hf2
 obtain⟨i0,hi0,hz0,hz1,hz2⟩:=info_parts Aax
 go_wp2
 go_loopw [12,51] (fun lv iv wr=> ∃ (k:Nat) (rs:List Qe),k≤o2.parts.length∧iv= .int .i64 k∧Hid (rs.length=k∧Cz rs=(given o2.rs o2.fold o2.early o2.slices (chunks o2) i).take k)∧Hid (Own 1 Kb 157 wr W4.heap.size lv rs)∧Hid (∀ r∈rs,Sl 2 Bt W4 r.1 r.2.2)∧Hid (Below W4.heap.size W4 wr)) (fun _ iv _=> o2.parts.length - (intOf iv).toNat)
 case atStart=> exact⟨0, [],by omega,by go_num,⟨rfl,rfl⟩,(Own.nil:Own 1 Kb 157 W4 W4.heap.size (.slice none 0 0) []),(fun r hr=> by cases hr),Below.refl _ _⟩
 case round=>
  obtain⟨k,rs,hk,rfl,HRS,HOW,HROW,HBE⟩:=hrel
  by_cases hlt:k < o2.parts.length
  ·obtain⟨pk,hpk⟩:∃ pk,o2.parts[k]?=some pk:=⟨_,List.getElem?_eq_getElem hlt⟩
   obtain⟨lv0,ob,ra,rcap,rl,hpl,crow,hsr,hgv,_,_⟩:=HC4.out.rowAt hpk (HALL.out k pk hpk) HIL.out HNP.out
   obtain⟨pa',pc',e',hps',_⟩:=HC4.out.Y5
   rw [HPV.out] at e'
   injection e' with a1 a2 a3
   subst a1
   obtain⟨pb,poff,lv,ov,rfl,_,hplk,y0,y1⟩:=hps'.part (k:=k) (by rw [HC4.out.pt.pn];exact hlt)
   rw [hpl] at hplk
   injection hplk with hplk
   injection hplk with a4 a5
   subst a4 a5
   obtain⟨la,lc,rfl,_⟩:=HC4.out.pt.li k lv0 _ hpl
   have c1:=cell_later HBE.out y0
   have c2:=cell_later HBE.out y1
   have c3:=cell_later HBE.out crow
   have c4:=cell_later HBE.out t2
   have f1:(k:Int) < (o2.parts.length:Int):=by omega
   have f2:(i:Int) < (o2.slices:Int):=by have:=HIL.out;omega
   have hrl:=HRS.out.1
   have HLE:Hid (rs.length+1≤1000000000):=by show _≤_;omega
   have HSU:Hid ((rs++ [(ra,rcap,rl)]).length=k+1∧Cz (rs++ [(ra,rcap,rl)])=(given o2.rs o2.fold o2.early o2.slices (chunks o2) i).take (k+1)):=by
    refine⟨by rw [List.length_append,hrl];rfl,?_⟩
    have h1:=HRS.out.2
    unfold Cz at h1 ⊢
    obtain⟨hl,hx⟩:=List.getElem?_eq_some_iff.1 hgv
    rw [List.map_append,h1,List.take_succ_eq_append_getElem hl,hx];rfl
   have HRN:Hid (∀ r∈rs++ [(ra,rcap,rl)],Sl 2 Bt W4 r.1 r.2.2):=fun r hr=> by
    rcases List.mem_append.1 hr with h1 | h1
    ·exact HROW.out r h1
    ·rw [List.mem_singleton.1 h1];exact hsr
   obtain⟨ua,uc,rfl⟩:=id HOW.out.1
   have HOA:=Aa ((HOW.out.alloc (.cells #[.slice la (Aq o2 k).length lc, .slice (some ⟨ob,0,none⟩) o2.slices o2.slices] 133)).alloc (.cells #[.slice ra rl.length rcap] 157))
   have HBA:=Aa ((HBE.out.alloc HBE.out.size (.cells #[.slice la (Aq o2 k).length lc, .slice (some ⟨ob,0,none⟩) o2.slices o2.slices] 133)).alloc (by have:=HBE.out.size;simp;omega) (.cells #[.slice ra rl.length rcap] 157))
   have HSZ:Hid (W4.heap.size≤((wr.alloc (.cells #[.slice la (Aq o2 k).length lc, .slice (some ⟨ob,0,none⟩) o2.slices o2.slices] 133)).alloc (.cells #[.slice ra rl.length rcap] 157)).heap.size):=HBA.out.size
   clear hpk hpl crow hsr hgv hps' y0 y1 a2 a3 HRS HROW hrl
   have hba:=ba wr (.cells #[.slice la (Aq o2 k).length lc, .slice (some ⟨ob,0,none⟩) o2.slices o2.slices] 133)
   have c3':=cell_later hba c3
   have c4':=cell_later hba c4
   clear hba
   go_upto_region 12 with (fail)
   go_wp2_with (at_builtin;refine Bi Ty _ _ 131 i0 _ rfl rfl Tryz.underlying131 hi0 hz0 hz1 hz2 rfl (by decide) (by decide) HOA.out HBA.out HSZ.out HLE.out rfl (ra,rcap,rl) ⟨wr.heap.size+1,0,none⟩ 1 rfl (Fc (by simp) rfl) (by intro u hu;simp [Kb] at hu;subst hu;rfl) ?_)
   intro v' w7 ho hb _ _
   have HO:=Aa ho
   have HBN:=Aa hb
   clear ho hb HOW HBE HOA HBA c1 c2 c3 c4
   go_wp2
   go_roundw
   case rel=> exact⟨k+1,rs++ [(ra,rcap,rl)],by omega,by go_num,HSU,HO,HRN,HBN⟩
   case measure=> (simp [intOf];try omega)
  ·obtain rfl:k=o2.parts.length:=by omega
   have HEND:Hid (∀ (w9:World) (own9:Nat→Ez) (G9:Bg),B8 w0 w9 own9 G9 (Au F2 a b ⟨true,(n,true,i),p.saved.toNat⟩)→G9.fb=G.fb→(∀ q,q < w2.heap.size→own9 q=own q)→Ab (fun q=> own q≠ .out) w2 w9→Bu w0 w own G (Ee F a b (n,true,i)) w9):=fun w9 own9 G9 h9 e9 a9 k9=> by
    have hbm:Ee F a b (n,true,i)=Au F2 a b ⟨true,(n,true,i),p.saved.toNat⟩:=by
     unfold Ee
     rw [←HF2.out]
     have:ofM F (n,true,i)=some p:=by unfold ofM;rw [ho];exact hp
     rw [this];rfl
    rw [hbm]
    have hw2:w.heap.size≤w2.heap.size:=Nat.le_trans HB0.out.size HK2.out.size
    refine⟨⟨own9,G9,h9,e9,fun q hq=> a9 q (by omega)⟩,?_⟩
    exact((Ab.Ai (S:=fun q=> own q≠ .out) HB0.out (Nat.le_refl _)).trans (HK2.out.mono fun q hq=> by rw [hq];simp)).trans k9
   have HNR:Hid (¬ own w.heap.size= .runs∧¬ own (w.heap.size+1)= .runs):=by
    rw [HH.out.Eo (Nat.le_refl _),HH.out.Eo (Nat.le_succ _)]
    exact⟨by simp,by simp⟩
   have HON:Hid (∃ x,An F2 a b=some x):=by rw [HF2.out];exact hon
   have HOFF:Hid (∀ x,An F2 a b=some x→x.on=false):=by rw [HF2.out];exact hoff
   have hrs:=HRS.out
   obtain⟨hrl,hrw⟩:=hrs
   rw [List.take_of_length_le (by unfold given chunks;rw [List.length_map,List.length_map,List.length_range,←HNP.out];exact Nat.le_refl _)] at hrw
   obtain⟨ua,uc,rfl⟩:=id HOW.out.1
   have H5:=Aa (H3.out.later HBE.out)
   have HFN:=Aa (Agc (cap:=uc) H5.out HI2.out HOO.out hrw hrl (HOW.out.sl Ty) (fun r hr=> (HROW.out r hr).later HBE.out (Nat.le_refl _)))
   have c2:=cell_later HBE.out x2
   have HRB5:=Aa (HRB.out.later HBE.out)
   have HP5:=Aa (HPB2.out.later HBE.out)
   have HT5:=Aa (HTB4.out.later HBE.out)
   have HB5:=Aa (HB3.out.trans (HBE.out.mono HB3.out.size))
   have HLK5:Hid (w2.heap.size < wr.heap.size):=HRB5.out.lt
   have HNB:Hid (g.nb≤wr.heap.size∧w0.heap.size≤wr.heap.size):=⟨(H5.out.js n g o2 hg HOO.out).hd.nb,H5.out.E5.size⟩
   clear HRS HOW HROW hrw hrl t0 t1 t2 x2 x6 hi0 hz0 hz1 hz2 HALL HPV HC4 HNP HP60 hnp60
   go_upto_region 14 with (fail)
   go_wp2_with fail
   refine HFN.out.mono ?_
   rintro e w5 ⟨⟨gm,rfl,hr5⟩,b5⟩
   have hrb5:=HRB5.out.later b5
   have s1:=hrb5.get (j:=1) rfl
   have z1:=hrb5.fz 1
   obtain⟨W6,hW6⟩:∃ W6,W6=w5.setCell ⟨w2.heap.size,1,none⟩ (.pointer (some ⟨gm,0,none⟩)):=⟨_,rfl⟩
   have k6:Ab (fun q=> q=w2.heap.size) w5 W6:=by rw [hW6];exact(Ab.refl (fun q=> q=w2.heap.size) w5).setCell (p:=⟨w2.heap.size,1,none⟩) rfl _
   have hb6:Below w2.heap.size w2 W6:=by
    rw [hW6]
    exact(HB5.out.trans (b5.mono HB5.out.size)).setCell (p:=⟨w2.heap.size,1,none⟩) (Nat.le_refl _) _
   have hlw:w.heap.size+1 < w2.heap.size:=by
    have h2:w.heap.size+2≤W.heap.size:=HWS.out
    have h3:=HK2.out.size
    omega
   have hrb6:Bk W6 w2.heap.size [.pointer none, .pointer (some ⟨gm,0,none⟩)]:=by rw [hW6];exact hrb5.set (k:=1) (u:= .pointer none) _ rfl
   have hp6:=(HP5.out.later b5).kept k6 (by omega)
   have ht6:=(HT5.out.later b5).kept k6 (by omega)
   have hS6:∀ q,(wr.heap.size≤q∧q < w5.heap.size)→w2.heap.size≤q∧q < W6.heap.size:=fun q hq=> by
    have h2:=HLK5.out
    have h3:=k6.size
    omega
   have hm6:=hr5.Aa3 k6 (fun q hq e=> by have h1:=hq.1;have h3:=HLK5.out;omega) (fun q hq e=> by have h1:=hq.1;have h3:=HLK5.out;omega)
   have hB6:w0.heap.size≤wr.heap.size∧wr.heap.size≤W6.heap.size:=⟨HNB.out.2,Nat.le_trans b5.size k6.size⟩
   have HCONT:Hid (∀ q,wr.heap.size≤q∧q < w5.heap.size→q < W6.heap.size):=fun q hq=> (hS6 q hq).2
   have hr61:=hrb6.get (j:=1) rfl
   have HB6:=Aa hb6
   have HR6:=Aa hrb6
   have HP6:=Aa hp6
   have HT6:=Aa ht6
   have HM6:=Aa hm6
   have HBB:=Aa hB6
   have HS6:=Aa hS6
   clear k6 hb6 hrb6 hp6 ht6 hm6 hB6 hS6 hr5 b5 hrb5 HFN c2 HP5 HT5 HRB5 HB5 HPB2 HTB4 HRB HB3 H3 H5 HNB
   go_upto_region 15 with (fail)
   rw [←hW6]
   clear hW6 s1 z1
   cases is with
   | false=>
     have hc0:p.saved.toNat=0:=by have:=HIS.out.1 rfl;omega
     rw [hc0] at HEND
     have HRI:Hid (Cf w0 W6 (Dr own w2.heap.size W6.heap.size (.run a b)) a b g o2 (n,true,i) 0 (.agg #[.pointer none, .pointer (some ⟨gm,0,none⟩)])):=Cf.ofF HM6.out HBB.out HS6.out HS6.out
     have HB7:=HB6
     have HR7:=HR6
     have HP7:=HP6
     have HT7:=HT6
     clear HB6 HR6 HP6 HT6 HM6 HBB HS6 hr61 HIS HLK hc0 HCONT
     obtain⟨w8,hrun8,k8,cb8,hput⟩:=Li H2.out HB7.out ha hb HON.out HOFF.out hg HOO.out HRI.out
     have HPUT:=Aa (hput 1)
     have hp0:=HP7.out.get (j:=0) rfl
     have hp1:=HP7.out.get (j:=1) rfl
     have ht0:=HT7.out.get (j:=0) rfl
     have ht1:=HT7.out.get (j:=1) rfl
     have ht2:=HT7.out.get (j:=2) rfl
     have hr0:=HR7.out.get (j:=0) rfl
     have hr1:=HR7.out.get (j:=1) rfl
     have cm7:=((H2.out.later HB7.out).bk.get (j:=2) rfl)
     have hp8:=HP7.out.kept k8 HNR.out.1
     have ht8:=HT7.out.kept k8 HNR.out.2
     have sp0:=hp8.get (j:=0) rfl
     have sp1:=hp8.get (j:=1) rfl
     have st0:=ht8.get (j:=0) rfl
     have st1:=ht8.get (j:=1) rfl
     have st2:=ht8.get (j:=2) rfl
     have HRUN8:=Aa hrun8
     clear hput k8 hp8 ht8 hrun8
     go_upto_region 20 with (fail)
     refine Bm 6 (by kernel_rfl) (by kernel_rfl) ?_
     simp only [List.take_succ_cons,List.take_zero,List.drop_succ_cons,List.drop_zero]
     repeat still_step
     refine wpStill_nil ?_
     go_wp2_with (at_mapUpdate;refine Hc rfl _ _ _ 87 rfl G.mb (B7 a b) _ rfl rfl rfl HRUN8.out ?_)
     clear hp0 hp1 ht0 ht1 ht2 hr0 hr1 cm7 HRUN8
     go_upto_region 21 with (fail)
     refine Bm 6 (by kernel_rfl) (by kernel_rfl) ?_
     simp only [List.take_succ_cons,List.take_zero,List.drop_succ_cons,List.drop_zero]
     repeat still_step
     refine wpStill_nil ?_
     go_wp2_with fail
     refine HPUT.out.mono ?_
     rintro e w9 ⟨rfl,k9,own9,G9,h9,e9,a9⟩
     have HFIN:=Aa (HEND.out w9 own9 G9 h9 e9 a9 k9)
     clear k9 h9 e9 a9 HPUT
     go_wp2
     go_ret
     exact⟨rfl,HFIN.out⟩
   | true=>
     obtain⟨hs0,hss⟩:=HIS.out.2 rfl
     unfold Oc at hss
     rw [if_pos rfl] at hss
     obtain⟨sm,hst1,hst2,hsv⟩:=hss
     subst hsv
     have hcle:p.saved.toNat≤(Ae o2.fold (Cd o2 i)).length:=by
      have hpk:=HI2.out.part n o2 true i _ HOO.out HP2.out
      have h1:=hpk.saved.2
      have h2:=hpk.many
      unfold G8 at h2
      rw [if_pos rfl] at h2
      rw [HPS.out] at h1
      rw [(HI2.out.Hl n o2 HOO.out).Ll HIL.out]
      omega
     have HLO:=Aa (Acl (H2.out.later HB6.out) HI2.out HOO.out HM6.out HBB.out.2 HCONT.out hst1 hst2 hcle)
     generalize tx (Gg sm ((Ae o2.fold (Cd o2 i)).take p.saved.toNat))=sv at *
     clear hst1 hst2 hcle hs0
     go_wp2_with fail
     refine HLO.out.mono ?_
     rintro e W7 ⟨⟨rfl,hm7⟩,k7⟩
     have hb7:Below w2.heap.size w2 W7:=HB6.out.trans (k7.below (fun q hq=> (HS6.out q hq).1) HB6.out.size)
     have HLKo:=HLK5.out
     have HRI:Hid (Cf w0 W7 (Dr own w2.heap.size W7.heap.size (.run a b)) a b g o2 (n,true,i) p.saved.toNat (.agg #[.pointer none, .pointer (some ⟨gm,0,none⟩)])):=by
      refine Cf.ofF hm7 ⟨HBB.out.1,Nat.le_trans HBB.out.2 k7.size⟩ (fun q hq=> ?_) fun q hq=> ⟨(HS6.out q hq).1,Nat.lt_of_lt_of_le (HS6.out q hq).2 k7.size⟩
      rcases hq with h1 | h1
      ·exact⟨(HS6.out q h1).1,Nat.lt_of_lt_of_le (HS6.out q h1).2 k7.size⟩
      ·exact⟨Nat.le_trans HB6.out.size h1.1,h1.2⟩
     have HR7:=Aa (HR6.out.kept k7 fun e=> by have:=e.1;omega)
     have HP7:=Aa (HP6.out.kept k7 fun e=> by have:=e.1;omega)
     have HT7:=Aa (HT6.out.kept k7 fun e=> by have:=e.1;omega)
     have HB7:=Aa hb7
     clear HB6 HR6 HP6 HT6 HM6 HBB HS6 hr61 HIS HLK hb7 HLKo k7 hm7 HLO HCONT HLK5
     obtain⟨w8,hrun8,k8,cb8,hput⟩:=Li H2.out HB7.out ha hb HON.out HOFF.out hg HOO.out HRI.out
     have HPUT:=Aa (hput 1)
     have hp0:=HP7.out.get (j:=0) rfl
     have hp1:=HP7.out.get (j:=1) rfl
     have ht0:=HT7.out.get (j:=0) rfl
     have ht1:=HT7.out.get (j:=1) rfl
     have ht2:=HT7.out.get (j:=2) rfl
     have hr0:=HR7.out.get (j:=0) rfl
     have hr1:=HR7.out.get (j:=1) rfl
     have cm7:=((H2.out.later HB7.out).bk.get (j:=2) rfl)
     have hp8:=HP7.out.kept k8 HNR.out.1
     have ht8:=HT7.out.kept k8 HNR.out.2
     have sp0:=hp8.get (j:=0) rfl
     have sp1:=hp8.get (j:=1) rfl
     have st0:=ht8.get (j:=0) rfl
     have st1:=ht8.get (j:=1) rfl
     have st2:=ht8.get (j:=2) rfl
     have HRUN8:=Aa hrun8
     clear hput k8 hp8 ht8 hrun8
     go_upto_region 20 with (fail)
     refine Bm 6 (by kernel_rfl) (by kernel_rfl) ?_
     simp only [List.take_succ_cons,List.take_zero,List.drop_succ_cons,List.drop_zero]
     repeat still_step
     refine wpStill_nil ?_
     go_wp2_with (at_mapUpdate;refine Hc rfl _ _ _ 87 rfl G.mb (B7 a b) _ rfl rfl rfl HRUN8.out ?_)
     clear hp0 hp1 ht0 ht1 ht2 hr0 hr1 cm7 HRUN8
     go_upto_region 21 with (fail)
     refine Bm 6 (by kernel_rfl) (by kernel_rfl) ?_
     simp only [List.take_succ_cons,List.take_zero,List.drop_succ_cons,List.drop_zero]
     repeat still_step
     refine wpStill_nil ?_
     go_wp2_with fail
     refine HPUT.out.mono ?_
     rintro e w9 ⟨rfl,k9,own9,G9,h9,e9,a9⟩
     have HFIN:=Aa (HEND.out w9 own9 G9 h9 e9 a9 k9)
     clear k9 h9 e9 a9 HPUT
     go_wp2
     go_ret
     exact⟨rfl,HFIN.out⟩
end
end Go.Proofs.YtbibeionenjmfaaGreatDoor
namespace Go.Proofs.YtbibeionenjmfaaGreatDoor
open Go.RowKit
section
variable {w0 w w' W:World} {own own':Nat→Ez} {G:Bg} {F F':Ad}
theorem Bu.same (h:B8 w0 w own G F) (hb:Below w.heap.size w w'):Bu w0 w own G F w':=
 ⟨⟨own,G,h.later hb,rfl,fun _ _=> rfl⟩,Ab.Ai hb (Nat.le_refl _)⟩
theorem Bu.store {Wc w5 w6:World} {T:Nat→Prop} (h:Bu w0 Wc own G F' w5) (hb:Below w.heap.size w Wc) (hw:B8 w0 w own G F) (k:Ab T w5 w6) (hT:∀ q,T q→w.heap.size≤q∧q < Wc.heap.size):Bu w0 w own G F' w6:=by
 obtain⟨⟨own',G',hf,e,ha⟩,k5⟩:=h
 refine⟨⟨own',G',hf.Ahv k fun q hq=> ⟨?_,?_⟩,e,fun q hq=> ha q (Nat.lt_of_lt_of_le hq hb.size)⟩,?_⟩
 ·rw [ha q (hT q hq).2];exact hw.Eo (hT q hq).1
 ·exact Nat.le_trans hw.E5.size (hT q hq).1
 ·exact(((Ab.Ai (S:=fun q=> own q≠ .out) hb (Nat.le_refl _)).trans k5).new k fun q hq=> (hT q hq).1)
theorem B8.room (h:B8 w0 w own G F) {wk:Int} (hr:(Dy F wk).2=0):wk.toNat < 4∧(Dy F wk).1 < 3∧wk=(wk.toNat:Int)∧∃ t,An F wk.toNat (Dy F wk).1=some t∧t.on=false:=by
 obtain⟨h0,t,ht,hoff⟩:=U5 hr
 obtain⟨row,h1,h2⟩:=K5 ht
 have h3:=(List.getElem?_eq_some_iff.1 h1).1
 have h4:=(List.getElem?_eq_some_iff.1 h2).1
 rw [h.Xt h1] at h4
 have h5:=h.bt.lr
 have h6:=h.bt.ln
 have h7:=h.rows
 have h8:0≤wk:=by
  unfold Dy at hr
  split at hr
  ·cases hr
  ·omega
 exact⟨by omega,by omega,by omega,t,ht,hoff⟩
theorem Acj {a b:Nat} {t:Ev} {p:As} (h:B8 w0 w own G F) (hi:InvC F) (ha:a < 4) (hb:b < 3) {x:Gb} (hx:An F a b=some x) (hoff:x.on=false) (hp:ofM F t=some p) (hst:¬ p.st=2) (hall:t.2.1=true→∀ o,F.Af[t.1]?=some o→Ig o.parts=true):
 Calls Tryz.prog 44 #[.pointer (some ⟨G.fb,0,none⟩), .agg #[.int .i64 a, .int .i64 b],C9 t] w fun e w'=> e= .returned .nilIface∧Bu w0 w own G (Ee F a b t) w':=by
 obtain⟨o,ho,hpl⟩:=Ia hp
 obtain⟨g,_,_,hg,_⟩:=h.Rt ho
 obtain⟨n,fo,i⟩:=t
 cases fo
 ·exact Zo h hi ha hb ⟨x,hx⟩ (fun y hy=> by rw [hx] at hy;cases hy;exact hoff) hg ho hpl hst
 ·exact Zn h hi ha hb ⟨x,hx⟩ (fun y hy=> by rw [hx] at hy;cases hy;exact hoff) hg ho hpl hst (hall rfl o ho)
set_option maxRecDepth 100000 in
set_option maxHeartbeats 4000000 in
theorem Tc (wk:Int) (h:B8 w0 w own G F) (hi:InvC F):Calls Tryz.prog 17 #[.pointer (some ⟨G.fb,0,none⟩), .int .i64 wk] w fun e w'=> e= .returned (.tuple #[C9 (A4 F wk).1.1,Du (A4 F wk).1.2])∧Bu w0 w own G (A4 F wk).2 w':=by
 obtain⟨W,hW⟩:∃ W,W=w.alloc (.cells #[.int .i64 0, .bool false, .int .i64 0] 33):=⟨_,rfl⟩
 have hb:Below w.heap.size w W:=by rw [hW];exact ba w _
 have ht:Bk W w.heap.size [.int .i64 0, .bool false, .int .i64 0]:=by rw [hW];exact Bk.new rfl
 have HH:=Aa h
 have HRO:=Aa (Agh wk (h.later hb))
 have HNX:=Aa fun w' (k:Below w.heap.size w w')=> Agg (h.later k) hi
 have HBEG:=Aa fun w' (k:Below w.heap.size w w') (a b:Nat) (t:Ev) (p:As) ha hb' x hx hoff hp hst hall=> Acj (a:=a) (b:=b) (t:=t) (p:=p) (x:=x) (h.later k) hi ha hb' hx hoff hp hst hall
 have c1:=cell_later hb (h.bk.get (j:=1) rfl)
 have HROOM:=Aa fun hr=> h.room (wk:=wk) hr
 have HW:=Aa hW
 have HB:=Aa hb
 have HT:=Aa ht
 have HWL:Hid (w.heap.size < W.heap.size):=by rw [hW];show _ < _;simp
 clear h hW hb ht
 by_cases hr:(Dy F wk).2=0
 ·obtain⟨ha,hb,hwk,x,hx,hoff⟩:=HROOM.out hr
  have hrw:U6 F wk= .agg #[.int .i64 (wk.toNat:Int), .int .i64 (Dy F wk).1]:=by unfold U6;rw [if_pos hr,←hwk]
  rw [hrw,hr,A3] at HRO
  have HOF:Hid (A4 F wk=match H8 F with
   | none=> ((Ha,5),F)
   | some t=> ((t,0),Ee F wk.toNat (Dy F wk).1 t)):=by show _=_;unfold A4;dsimp only;rw [if_neg (by rw [hr];simp)];cases H8 F <;> rfl
  replace HBEG:=Aa fun w' k t p=> HBEG.out w' k wk.toNat (Dy F wk).1 t p ha hb x hx hoff
  have HNM:=Aa fun t (ht:H8 F=some t)=> Un ht
  clear hrw HROOM hx hoff ha hb hr
  generalize (Dy F wk).1=rk at *
  generalize wk.toNat=wn at *
  subst hwk
  go_enter Tryz.func17,Tryz.ntmps17
  go_upto_region 1 with (fail)
  rw [←HW.out]
  clear HW
  go_wp2_with fail
  refine HRO.out.mono ?_
  rintro e w1 ⟨rfl,b1⟩
  have HB1:=Aa (HB.out.trans (b1.mono HB.out.size))
  obtain⟨W1,hW1⟩:∃ W1,W1=w1.alloc (.cells #[.int .i64 wn, .int .i64 rk] 60):=⟨_,rfl⟩
  have b2:Below w1.heap.size w1 W1:=by rw [hW1];exact ba w1 _
  have hp1:Bk W1 w1.heap.size [.int .i64 wn, .int .i64 rk]:=by rw [hW1];exact Bk.new rfl
  replace HT:=Aa ((HT.out.later b1).later b2)
  have HP:=Aa hp1
  have HW1:=Aa hW1
  have HWL1:=Aa (Nat.lt_of_lt_of_le HWL.out b1.size)
  have HW1S:Hid (w.heap.size≤w1.heap.size):=HB1.out.size
  have HWL2:Hid (w1.heap.size < W1.heap.size):=hp1.lt
  replace HB:=Aa (HB1.out.trans (b2.mono HB1.out.size))
  have HN1:=Aa (HNX.out W1 HB.out)
  clear b1 b2 hp1 hW1 HRO c1 HB1 HWL HNX
  go_upto_region 4 with (fail)
  rw [←HW1.out]
  go_wp2_with fail
  refine HN1.out.mono ?_
  rintro e w2 ⟨rfl,b2⟩
  have HB2S:Hid (W1.heap.size≤w2.heap.size):=b2.size
  clear HN1
  obtain⟨nm,hnm⟩:∃ nm,nm=H8 F:=⟨_,rfl⟩
  rw [←hnm] at HOF ⊢
  have HNMQ:=Aa hnm
  clear hnm
  cases nm with
  | none=>
    obtain⟨W2,hW2⟩:∃ W2,W2=w2.alloc (.cells #[.int .i64 0, .bool false, .int .i64 0] 33):=⟨_,rfl⟩
    have b3:Below w2.heap.size w2 W2:=by rw [hW2];exact ba w2 _
    replace HB:=Aa (HB.out.trans (b2.mono HB.out.size))
    replace HT:=Aa ((HT.out.later b2).later b3)
    have HB9:=Aa (Hy (.int .i64 0) (.bool false) (.int .i64 0) (HB.out.trans (b3.mono HB.out.size)) (Nat.le_refl w.heap.size))
    have HW2:=Aa hW2
    have e9:Sk none= .agg #[.int .i64 0, .bool false, .int .i64 0]:=rfl
    have e8:(none:Option Ev).isSome=false:=rfl
    rw [e9,e8]
    clear b2 b3 hW2 HBEG HNM HNMQ HP HW1 HWL1 HWL2 e9 e8
    go_upto_region 5 with (fail)
    rw [←HW2.out]
    have hk9:=HT.out.s3 (.int .i64 0) (.bool false) (.int .i64 0)
    have c0:=HT.out.get (j:=0) rfl
    have c1:=HT.out.get (j:=1) rfl
    have c2:=HT.out.get (j:=2) rfl
    have z0:=HT.out.fz 0
    have z1:=HT.out.fz 1
    have z2:=HT.out.fz 2
    have f0:=hk9.get (j:=0) rfl
    have f1:=hk9.get (j:=1) rfl
    have f2:=hk9.get (j:=2) rfl
    have y0:=hk9.fz 0
    have y1:=hk9.fz 1
    have y2:=hk9.fz 2
    clear hk9
    go_wp2
    refine bodyPost_ret (v:= .tuple #[.agg #[.int .i64 0, .bool false, .int .i64 0], .iface 91 (.int .i64 5)]) (by simp [results,Tryz.results17,go_sem,f0,f1,f2,y0,y1,y2]) rfl ?_
    rw [HOF.out]
    exact⟨rfl,Bu.same HH.out HB9.out⟩
  | some t=>
    obtain⟨o,ho,hnj,_⟩:=HNM.out t HNMQ.out.symm
    obtain⟨p,hp,hp0⟩:=Uv ho hnj
    have hall:=(Abh hnj).2
    obtain⟨tn,tf,ti⟩:=t
    obtain⟨W2,hW2⟩:∃ W2,W2=w2.alloc (.cells #[.int .i64 tn, .bool tf, .int .i64 ti] 33):=⟨_,rfl⟩
    have b3:Below w2.heap.size w2 W2:=by rw [hW2];exact ba w2 _
    have ht2:Bk W2 w2.heap.size [.int .i64 tn, .bool tf, .int .i64 ti]:=by rw [hW2];exact Bk.new rfl
    replace HB:=Aa (HB.out.trans (b2.mono HB.out.size))
    replace HB:=Aa (HB.out.trans (b3.mono HB.out.size))
    replace HT:=Aa ((HT.out.later b2).later b3)
    replace HP:=Aa ((HP.out.later b2).later b3)
    have HT2:=Aa ht2
    have HW2S:Hid (w.heap.size≤w1.heap.size∧w.heap.size≤w2.heap.size):=⟨HW1S.out,Nat.le_trans HW1S.out (Nat.le_trans (Nat.le_of_lt HWL2.out) HB2S.out)⟩
    have HW2:=Aa hW2
    have hls:w.heap.size < W2.heap.size∧w1.heap.size < W2.heap.size∧w2.heap.size < W2.heap.size:=⟨HT.out.lt,HP.out.lt,HT2.out.lt⟩
    have HLS:=Aa hls
    have HBG:=Aa (HBEG.out (W2.drewN 1) (HB.out.trans ((below_drewN (Below.refl W2.heap.size W2) 1).mono HB.out.size)) (tn,tf,ti) p hp (by omega) (fun hf o' ho'=> by rw [ho] at ho';cases ho';exact hall hf))
    have e9:Sk (some (tn,tf,ti))= .agg #[.int .i64 tn, .bool tf, .int .i64 ti]:=rfl
    have e8:(some (tn,tf,ti)).isSome=true:=rfl
    rw [e9,e8]
    clear b2 b3 hW2 HBEG HNM HNMQ HW1 e9 e8 ho hnj hp hp0 hall ht2 hls HWL1 HWL2
    go_upto_region 5 with (fail)
    rw [←HW2.out]
    clear HW2
    have q0:=HT2.out.get (j:=0) rfl
    have q1:=HT2.out.get (j:=1) rfl
    have q2:=HT2.out.get (j:=2) rfl
    have p0:=HP.out.get (j:=0) rfl
    have p1:=HP.out.get (j:=1) rfl
    have ho2:own w2.heap.size= .out:=HH.out.Eo (by have h1:=HLS.out;have h2:=HW2S.out;omega)
    have ho0:own w.heap.size= .out:=HH.out.Eo (Nat.le_refl _)
    have ho1:own w1.heap.size= .out:=HH.out.Eo (by have h2:=HW2S.out;omega)
    have HFB:=Aa HB.out
    go_upto_region 7 with (fail)
    refine wp_region_noPanic ?_
    refine Al (S:=(fun w'=> Ab (fun q=> own q≠ .out) W2 w')) (E:= [5,6]) (by kernel_rfl) ?_ (fun hHeld=> ?_)
    ·(first | exact(Ab.refl _ _).drew | exact hHeld.trans b5.2 | exact hHeld)
    try dsimp only [List.size_toArray,List.length_cons,List.length_nil,Nat.reduceAdd]
    refine hT 0 [[0], [0]] (v:=?_) rfl (by kernel_rfl) (by rfl) (by assumption) ?_ ?_
    rotate_left
    focus (intro w hSw;(try dsimp only at hSw);(have r0:=hSw.cell q0 (fun e=> e ho2);have r1:=hSw.cell q1 (fun e=> e ho2);have r2:=hSw.cell q2 (fun e=> e ho2);have s0:=hSw.cell p0 (fun e=> e ho1);have s1:=hSw.cell p1 (fun e=> e ho1));go_simp;try with_reducible rfl)
    refine hP 1 (v:=?_) rfl (by kernel_rfl) (by rfl) ?_ ?_
    rotate_left
    focus (intro w;go_simp;try with_reducible rfl)
    refine hT 2 [[4,2], [2]] (v:=?_) rfl (by kernel_rfl) (by rfl) (by assumption) ?_ ?_
    rotate_left
    focus (intro w hSw;(try dsimp only at hSw);(have r0:=hSw.cell q0 (fun e=> e ho2);have r1:=hSw.cell q1 (fun e=> e ho2);have r2:=hSw.cell q2 (fun e=> e ho2);have s0:=hSw.cell p0 (fun e=> e ho1);have s1:=hSw.cell p1 (fun e=> e ho1));go_simp;try with_reducible rfl)
    refine hT 3 [[4,3], [3]] (v:=?_) rfl (by kernel_rfl) (by rfl) (by assumption) ?_ ?_
    rotate_left
    focus (intro w hSw;(try dsimp only at hSw);(have r0:=hSw.cell q0 (fun e=> e ho2);have r1:=hSw.cell q1 (fun e=> e ho2);have r2:=hSw.cell q2 (fun e=> e ho2);have s0:=hSw.cell p0 (fun e=> e ho1);have s1:=hSw.cell p1 (fun e=> e ho1));go_simp;try with_reducible rfl)
    try simp only [Act.put,List.setIfInBounds_toArray,List.set_cons_zero,List.set_cons_succ]
    refine hR [4] (by kernel_rfl) (by simp) (Ac.cons rfl (fun KH hKH=> ?_) .nil)
    go_simp
    (go_at_call 44;refine HBG.out.mono ?_;rintro e w5 ⟨rfl,b5⟩)
    try go_wp2_with fail
    refine hKH.out _ _ ?_ (fun hNew=> ?_)
    ·(first | exact(Ab.refl _ _).drew | exact hHeld.trans b5.2 | exact hHeld)
    clear hKH KH hHeld
    have hHeld:=hNew
    clear hNew
    try simp only [Act.put,List.setIfInBounds_toArray,List.set_cons_zero,List.set_cons_succ]
    refine hR [5] (by kernel_rfl) (by simp) (Ac.Bb rfl (by kernel_rfl) (fun KH hKH=> ?_) .nil)
    have HTX:=Aa (HT.out.kept hHeld (fun e=> e ho0))
    have hk9:=HTX.out.s3 (.int .i64 tn) (.bool tf) (.int .i64 ti)
    have c0:=HTX.out.get (j:=0) rfl
    have c1:=HTX.out.get (j:=1) rfl
    have c2:=HTX.out.get (j:=2) rfl
    have z0:=HTX.out.fz 0
    have z1:=HTX.out.fz 1
    have z2:=HTX.out.fz 2
    have f0:=hk9.get (j:=0) rfl
    have f1:=hk9.get (j:=1) rfl
    have f2:=hk9.get (j:=2) rfl
    have y0:=hk9.fz 0
    have y1:=hk9.fz 1
    have y2:=hk9.fz 2
    have HFT:=Aa (b5.store (HB.out.trans ((below_drewN (Below.refl W2.heap.size W2) 1).mono HB.out.size)) HH.out ((((Ab.refl (fun q=> q=w.heap.size) w5).setCell (p:=⟨w.heap.size,0,none⟩) rfl (.int .i64 tn)).setCell (p:=⟨w.heap.size,1,none⟩) rfl (.bool tf)).setCell (p:=⟨w.heap.size,2,none⟩) rfl (.int .i64 ti)) (fun q hq=> by rw [hq];exact⟨Nat.le_refl _,HLS.out.1⟩))
    clear hk9 b5
    go_simp
    refine hKH.out _ _ ?_
    clear hKH KH
    try clear hHeld
    try simp only [Act.put,List.setIfInBounds_toArray,List.set_cons_zero,List.set_cons_succ]
    refine hR [6] (by kernel_rfl) (by simp) (Ac.Bb rfl (by kernel_rfl) (fun KH hKH=> ?_) .nil)
    go_simp
    refine hKH.out _ _ ?_
    clear hKH KH
    try clear hHeld
    refine Ak (by kernel_rfl) ?_ _
    refine NoPanic.normal ?_
    go_wp2
    refine bodyPost_ret (v:= .tuple #[.agg #[.int .i64 tn, .bool tf, .int .i64 ti], .nilIface]) (by simp [results,Tryz.results17,go_sem,f0,f1,f2,y0,y1,y2]) rfl ?_
    rw [HOF.out]
    exact⟨rfl,HFT.out⟩
 ·have HOF:Hid (A4 F wk=((Ha,(Dy F wk).2),F)):=by show _=_;unfold A4;dsimp only;rw [if_pos hr]
  have hrw:U6 F wk= .agg #[.int .i64 0, .int .i64 0]:=by unfold U6;rw [if_neg hr]
  have he:=Ar hr
  rw [hrw,he] at HRO
  have HE:=Aa he
  clear hrw he HROOM HBEG HNX
  generalize (Dy F wk).2=er at *
  go_enter Tryz.func17,Tryz.ntmps17
  go_upto_region 1 with (fail)
  rw [←HW.out]
  clear HW
  go_wp2_with fail
  refine HRO.out.mono ?_
  rintro e w1 ⟨rfl,b1⟩
  replace HB:=Aa (HB.out.trans (b1.mono HB.out.size))
  replace HT:=Aa ((HT.out.later b1).alloc (.cells #[.int .i64 0, .int .i64 0] 60))
  have HW1:=Aa (Nat.lt_of_lt_of_le HWL.out b1.size)
  clear b1 HRO c1
  have HB9:=Aa (Hy (.int .i64 0) (.bool false) (.int .i64 0) (HB.out.alloc HB.out.size (.cells #[.int .i64 0, .int .i64 0] 60)) (Nat.le_refl w.heap.size))
  have hk9:=HT.out.s3 (.int .i64 0) (.bool false) (.int .i64 0)
  have c0:=HT.out.get (j:=0) rfl
  have c1:=HT.out.get (j:=1) rfl
  have c2:=HT.out.get (j:=2) rfl
  have z0:=HT.out.fz 0
  have z1:=HT.out.fz 1
  have z2:=HT.out.fz 2
  have f0:=hk9.get (j:=0) rfl
  have f1:=hk9.get (j:=1) rfl
  have f2:=hk9.get (j:=2) rfl
  have y0:=hk9.fz 0
  have y1:=hk9.fz 1
  have y2:=hk9.fz 2
  clear hk9
  go_wp2
  refine bodyPost_ret (v:= .tuple #[.agg #[.int .i64 0, .bool false, .int .i64 0], .iface 91 (.int .i64 er)]) (by simp [results,Tryz.results17,go_sem,f0,f1,f2,y0,y1,y2]) rfl ?_
  rw [HOF.out]
  exact⟨by rw [HE.out];rfl,Bu.same HH.out HB9.out⟩
end
end Go.Proofs.YtbibeionenjmfaaGreatDoor
