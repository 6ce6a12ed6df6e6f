/- The floor: Offer. -/
import Derived.DeepKeys4
import Derived.Test.YtbibeionenjmfaaGreatDoorFlNext
set_option linter.unusedSimpArgs false
set_option linter.unusedVariables false
namespace Go.Proofs.YtbibeionenjmfaaGreatDoor
open Go.RowKit
theorem Aiu:laidOutB Tryz.prog=true:=by kernel_rfl
theorem Ant:(60:TypeId) < (Tryz.prog).types.size:=of_decide_eq_true (by kernel_rfl)
theorem Ano:(33:TypeId) < (Tryz.prog).types.size:=of_decide_eq_true (by kernel_rfl)
theorem Acm:Maps.Keyed Tryz.prog 60:=Maps.Keyed.of_law (deep_law_laid Aiu (m:=4) (by omega) Ant (by kernel_rfl) (by kernel_rfl))
theorem Anf:Maps.Keyed Tryz.prog 33:=Maps.Keyed.of_law (deep_law_laid Aiu (m:=4) (by omega) Ano (by kernel_rfl) (by kernel_rfl))
theorem Aoj:(Tryz.prog).cellsOf 60=2:=by kernel_rfl
theorem Anp:(Tryz.prog).cellsOf 33=3:=by kernel_rfl
theorem Aie:(Tryz.prog).cellsOf 3=1:=by kernel_rfl
theorem An4:(Tryz.prog).cellsOf 4=1:=by kernel_rfl
theorem Aox:(Tryz.prog).keyType 60=true:=by kernel_rfl
theorem Aou:(Tryz.prog).keyType 33=true:=by kernel_rfl
theorem V5:∃ m,(Tryz.prog).types.size+1=m+1+1:=⟨(Tryz.prog).types.size - 1,by have h:1≤(Tryz.prog).types.size:=of_decide_eq_true (by kernel_rfl);omega⟩
theorem Qd {a b:Int} (ha:(Lit.int .i64 a).wf=true) (hb:(Lit.int .i64 b).wf=true):keyOf Tryz.prog 60 (.agg #[.int .i64 a, .int .i64 b])=some (.string (keyBytes [.int .i64 a, .int .i64 b])):=by
 obtain⟨m,hm⟩:=V5
 unfold keyOf
 rw [Tryz.underlying60]
 dsimp only
 rw [Aox,hm]
 simp [Value.formed,Tryz.underlying60,Aoj,Program.keyLits,Value.cells,Tryz.underlying3,Aie,ha,hb]
theorem Zg {a c:Int} {b:Bool} (ha:(Lit.int .i64 a).wf=true) (hc:(Lit.int .i64 c).wf=true):keyOf Tryz.prog 33 (.agg #[.int .i64 a, .bool b, .int .i64 c])=some (.string (keyBytes [.int .i64 a, .bool b, .int .i64 c])):=by
 obtain⟨m,hm⟩:=V5
 unfold keyOf
 rw [Tryz.underlying33]
 dsimp only
 rw [Aou,hm]
 simp [Value.formed,Tryz.underlying33,Anp,Program.keyLits,Value.cells,Tryz.underlying3,Tryz.underlying4,Aie,An4,ha,hc]
theorem J2 {n:Nat} (h:n≤1000000):(Lit.int .i64 (n:Int)).wf=true:=by
 show(decide (IntKind.i64.min≤(n:Int)) && decide ((n:Int)≤IntKind.i64.max))=true
 have h1:IntKind.i64.min= -9223372036854775808:=by decide
 have h2:IntKind.i64.max=9223372036854775807:=by decide
 rw [h1,h2,Bool.and_eq_true,decide_eq_true_eq,decide_eq_true_eq]
 omega
def Aen:Value:= .agg #[.pointer none, .pointer none]
theorem Rv (w:World):(zeroValue 112).run Tryz.prog w= .ok Aen w:=by kernel_rfl
theorem Aan (w:World):(zeroValue 9).run Tryz.prog w= .ok (.string ⟨#[]⟩) w:=by kernel_rfl
theorem Ajz {a b a' b':Nat} (h:¬ (a'=a∧b'=b)):Bz a' b'≠Bz a b:=by
 unfold Bz
 intro e
 injection e with e
 have:=congrArg Array.toList e
 simp at this
 exact h ⟨by omega,by omega⟩
theorem Aj5 {t t':Eg} (h:Cu t=Cu t'):t=t':=by
 obtain⟨n,f,i⟩:=t
 obtain⟨n',f',i'⟩:=t'
 unfold Cu at h
 injection h with e
 have:=congrArg Array.toList e
 simp at this
 obtain⟨h1,h2,h3⟩:=this
 exact Prod.ext (by show n=n';omega) (Prod.ext h2 (by show i=i';omega))
def V0:List Value:=(List.range 4).flatMap fun a=> (List.range 3).map fun b=> Bz a b
theorem Abs {a b:Nat} (ha:a < 4) (hb:b < 3):Bz a b∈V0:=List.mem_flatMap.2 ⟨a,List.mem_range.2 ha,List.mem_map.2 ⟨b,List.mem_range.2 hb,rfl⟩⟩
section
variable {w0 w w':World} {own:Nat→Eu} {G:Bb} {F F':Ad}
theorem Bv.Anl (h:Bv w0 w own G F) {a b:Nat} (ha:a < 4) (hb:b < 3) (hoff:∀ t,Aw F a b=some t→t.on=false) {v:Value} (hv:∃ r0 r1:Option Addr,v= .agg #[.pointer r0, .pointer r1]):
 ∃ w5,(Instr.mapUpdate 87 (.map (some G.mb)) (Bz a b) v).run Tryz.prog w= .ok () w5∧Bv w0 w5 own {G with rf:=L7 G.rf (Bz a b) (some v)} F∧Ab (fun q=> own q= .runs) w w5:=by
 obtain⟨w5,hrun,hm,hk⟩:=h.rn.store Acm Tryz.underlying87 (Rv w) (L:=V0) (fun x hx=> by
  obtain⟨⟨a,b,ha,hb,rfl⟩,_⟩:=h.rd x hx
  exact Abs ha hb) (by decide) (key:=Bz a b) (val:=v) (Qd (J2 (by omega)) (J2 (by omega)))
 have hk':=hk.mono (T:=fun q=> own q= .runs) fun q hq=> hq ▸ h.Oq
 refine⟨w5,hrun,h.runs hk' (fun q hq=> hq) hm (fun x hx=> ?_) fun a' b' t h1 h2=> ?_,hk'⟩
 ·by_cases hxe:x=Bz a b
  ·subst hxe
   obtain⟨r0,r1,e⟩:=hv
   exact⟨⟨a,b,ha,hb,rfl⟩,r0,r1,by rw [Hi,e]⟩
  ·rw [Fg hxe] at hx ⊢
   exact h.rd x hx
 ·refine Fg (Ajz fun e=> ?_)
  obtain⟨rfl,rfl⟩:=e
  rw [hoff t h1] at h2
  cases h2
theorem Bv.Alj (h:Bv w0 w own G F) {a b:Int} (ha:(Lit.int .i64 a).wf=true) (hb:(Lit.int .i64 b).wf=true) (hoff:∀ (a' b':Nat) t,(a':Int)=a→(b':Int)=b→Aw F a' b'=some t→t.on=false) (ty:TypeId):
 ∃ w5,(Builtin.delete_ #[87,60] ty #[.map (some G.mb), .agg #[.int .i64 a, .int .i64 b]]).run Tryz.prog w= .ok (.tuple #[]) w5∧Bv w0 w5 own {G with rf:=L7 G.rf (.agg #[.int .i64 a, .int .i64 b]) none} F∧Ab (fun q=> own q= .runs) w w5:=by
 obtain⟨w5,hrun,hm,hk⟩:=h.rn.drop Acm Tryz.underlying87 (key:= .agg #[.int .i64 a, .int .i64 b]) (Qd ha hb) ty
 have hk':=hk.mono (T:=fun q=> own q= .runs) fun q hq=> hq ▸ h.Oq
 refine⟨w5,hrun,h.runs hk' (fun q hq=> hq) hm (fun x hx=> ?_) fun a' b' t h1 h2=> ?_,hk'⟩
 ·by_cases hxe:x= .agg #[.int .i64 a, .int .i64 b]
  ·rw [hxe,Hi] at hx
   exact absurd rfl hx
  ·rw [Fg hxe] at hx ⊢
   exact h.rd x hx
 ·refine Fg fun e=> ?_
  unfold Bz at e
  injection e with e
  have:=congrArg Array.toList e
  simp at this
  rw [hoff a' b' t this.1 this.2 h1] at h2
  cases h2
theorem Bv.Aeb (h:Bv w0 w own G F) (a b:Nat) (ha:a≤1000000) (hb:b≤1000000):(Instr.lookup 87 (.map (some G.mb)) (Bz a b) false).run Tryz.prog w= .ok ((G.rf (Bz a b)).getD Aen) w:=
 h.rn.Aop Acm Tryz.underlying87 (Rv w) (Qd (J2 ha) (J2 hb))
theorem Es.Ws {n:Nat} {g:El} {o:Bg} (h:Es w0 w own n g o) (fold:Bool) (i:Nat) (hn:n≤1000000) (hi:i≤1000000):(Instr.lookup 99 (.map (some g.mb)) (Cu (n,fold,i)) true).run Tryz.prog w= .ok (.tuple #[(g.sf (Cu (n,fold,i))).getD (.string ⟨#[]⟩), .bool (g.sf (Cu (n,fold,i))).isSome]) w:=
 h.sv.sv.look Anf Tryz.underlying99 (Aan w) (Zg (J2 hn) (J2 hi))
end
end Go.Proofs.YtbibeionenjmfaaGreatDoor
namespace Go.Proofs.YtbibeionenjmfaaGreatDoor
open Go.RowKit
theorem Agr {B:Nat} {kind:Int} {L:List Pr} {c n d:Nat} {S LS:Nat→Prop} {v:Value} (w:World) (hg:GW w) (hB:B≤w.heap.size) (h:Gs w B kind L d S LS v) (hLS:∀ q,LS q→q < w.heap.size) (hst:Fa kind L n c) (hn:n≤L.length) (hc:c≤(Ae kind L).length) (hok:Ng L) (hs:(Cl ((Ae kind L).take c)).length≤9000000):
 Calls Tryz.prog 74 #[v, .string (tx (F8 n ((Ae kind L).take c)))] w fun e w'=> (e= .returned (.bool true)∧Gs w' B kind L c (fun q=> S q∨(w.heap.size≤q∧q < w'.heap.size)) LS v)∧Ab S w w':=by
 obtain⟨g,m,la,lc,va,rfl,h1,h2,h3,h4,h5,h6,h7⟩:=h
 have hL:=hok.1
 have hl:(Lib.itoa (n:Int)).length≤20:=C2 (by omega) (by omega)
 refine(Aii w hg hB h1 hst hn (by omega) (Ae7 hok kind c) (by rw [O1];omega) fun b o e=> hLS b (h6 b o e)).mono ?_
 rintro e w' ⟨⟨rfl,va',k1,k2⟩,k3⟩
 exact⟨⟨rfl,g,n,la,lc,va',rfl,k1,hst,hc, .inl h4,fun q e=> .inr ⟨k2 q e,(k1.own.lt q e).2⟩,h6,Nat.lt_of_lt_of_le h7 k3.size⟩,k3.mono fun q e=> e ▸ h4⟩
theorem D7.bd {w:World} {B:Nat} {ro:Option Addr} {rc:Nat} {rs:List Am} {fold slices:Int} {early:Bool} {lines:List ByteArray} {n:Nat} {S:Nat→Prop} {v:Value} (h:D7 w B ro rc rs fold slices early lines n S v):D7 w B ro rc rs fold slices early lines n (fun q=> S q∧q < w.heap.size) v:=by
 obtain⟨g,la,lc,va,e,h1,h2,h3,h4⟩:=h
 exact⟨g,la,lc,va,e,h1,⟨h2,h1.bk.lt⟩,fun q e=> ⟨h3 q e,(h1.own.lt q e).2⟩,fun b o e=> ⟨h4 b o e,(h1.apart.2 b o e).1.2⟩⟩
section
variable {w0 w w' W:World} {own own':Nat→Eu} {G:Bb} {F F':Ad} {n:Nat} {g:El} {o:Bg}
theorem Bv.Dg (h:Bv w0 w own G F) {q:Nat} (hq:w.heap.size≤q):own q= .out:=by
 cases hc:own q with
 | out=> rfl
 | _=> have:=(h.lo q (by rw [hc];simp)).2;omega
theorem Bv.gwl (h:Bv w0 w own G F):GW w:=h.gw.later h.Gj (Nat.le_refl _)
theorem Sl.part {w:World} {ao:Option Addr} {l:List (Value×Value)} (h:Sl 2 Eo w ao l) {k:Nat} (hk:k < l.length):
 ∃ b off x y,ao=some ⟨b,off,none⟩∧b < w.heap.size∧l[k]?=some (x,y)∧w.cell? ⟨b,off+k * 2,none⟩=some x∧w.cell? ⟨b,off+k * 2+1,none⟩=some y:=by
 obtain⟨b,off,e,hlt,hc⟩:=h (by omega)
 refine⟨b,off,l[k].1,l[k].2,e,hlt,by simp [hk],?_,?_⟩
 ·have:=hc k l[k] 0 _ (by simp [hk]) rfl
  simpa using this
 ·have:=hc k l[k] 1 _ (by simp [hk]) rfl
  simpa using this
theorem Es.Ut {fold:Bool} {i:Nat} {p:As} (h:Es w0 w own n g o) (hp:(Er o fold)[i]?=some p):∃ (s:ByteArray) (is:Bool),(g.sf (Cu (n,fold,i))).getD (.string ⟨#[]⟩)= .string s∧(g.sf (Cu (n,fold,i))).isSome=is∧(is=false→p.saved < 0)∧(is=true→0≤p.saved∧Oh o fold i p.saved.toNat s):=by
 obtain⟨h1,h2⟩:=h.sv.ss fold i p hp
 by_cases hs:p.saved < 0
 ·rw [h1 hs]
  exact⟨⟨#[]⟩,false,rfl,rfl,fun _=> hs,fun e=> (by cases e)⟩
 ·obtain⟨s,h3,h4⟩:=h2 (by omega)
  rw [h3]
  exact⟨s,true,rfl,rfl,fun e=> (by cases e),fun _=> ⟨by omega,h4⟩⟩
theorem Aes (hi:Fz F) (t:Eg):Fz (setOf F t fun p=> {p with st:=1}):=hi.setOf t (fun p=> {p with st:=1}) fun o p _ _ hp=> ⟨hp.many, .inr (.inl rfl),hp.saved⟩
theorem Agx {i:Nat} {la:Option Addr} {lc:Nat} (h:Bv w0 w own G F) (hi:Fz F) (hg:G.jg[n]?=some g) (ho:F.Aj[n]?=some o) (hs:Sl 1 C8 w la (Ao o i)) (hn:la=none→lc=0):
 Calls Tryz.prog 75 #[.agg #[.slice g.ro g.rs.length g.rc, .int .i64 o.fold, .bool o.early, .int .i64 o.slices], .slice la (Ao o i).length lc] w fun e w'=> (∃ v,e= .returned (.tuple #[v, .nilIface])∧D7 w' w.heap.size g.ro g.rc g.rs o.fold o.slices o.early (Ao o i) 0 (fun q=> w.heap.size≤q∧q < w'.heap.size) v)∧Below w.heap.size w w':=by
 have hc:=h.js n g o hg ho
 have hf:=hi.Hj n o ho
 have hr4:g.rs.length≤4:=by have:=hf.many.2;rw [←hc.hd.rv,List.length_map] at this;exact this
 have h60:(Ao o i).length≤60:=by rw [Cn];unfold G7;have:=hf.lines;simp;omega
 exact Ah7 g.ro g.rc g.rs o.fold o.slices o.early 6 la lc (Ao o i) w ⟨hc.hd.ru.sl,hc.hd.ru.Xp⟩ (by unfold maxLen;omega) hs hn (by rw [hc.hd.rv];exact hf.ok) h60
theorem Ab5 {i m B:Nat} {S:Nat→Prop} {v:Value} (h:Bv w0 w own G F) (hi:Fz F) (hg:G.jg[n]?=some g) (ho:F.Aj[n]?=some o) (hr:D7 w B g.ro g.rc g.rs o.fold o.slices o.early (Ao o i) 0 S v) (hB:B≤w.heap.size) (hm:m≤(Ao o i).length):
 Calls Tryz.prog 76 #[v, .string (tx (F8 m (A9 o.rs o.fold ((Ao o i).take m))))] w fun e w'=> (e= .returned (.bool true)∧D7 w' B g.ro g.rc g.rs o.fold o.slices o.early (Ao o i) m (fun q=> S q∨w.heap.size≤q) v)∧Ab S w w':=by
 have hc:=h.js n g o hg ho
 have hf:=hi.Hj n o ho
 have h60:(Ao o i).length≤60:=by rw [Cn];unfold G7;have:=hf.lines;simp;omega
 have h1:=hf.Aod i m
 have h2:=hf.Ajm i m
 rw [←hc.hd.rv] at h1 h2 ⊢
 exact Afh w h.gwl hB hr hm (by omega) h1 h2
theorem Bx.ofM {a b i c N B:Nat} {S:Nat→Prop} {vm:Value} (hr:D7 w B g.ro g.rc g.rs o.fold o.slices o.early (Ao o i) c S vm) (hB:g.nb≤B∧w0.heap.size≤B∧B≤w.heap.size) (hS:∀ q,S q→N≤q∧q < w.heap.size):Bx w0 w (Dk own N w.heap.size (.run a b)) a b g o (n,false,i) c (.agg #[vm, .pointer none]):=by
 unfold Bx
 rw [if_neg (by simp)]
 exact⟨B,vm,rfl,hB,hr.more fun q hq=> Gp (hS q hq)⟩
theorem Bx.ofF {a b i c N B:Nat} {S LS:Nat→Prop} {vf:Value} (hr:Gs w B o.fold (B8 o i) c S LS vf) (hB:w0.heap.size≤B∧B≤w.heap.size) (hS:∀ q,S q→N≤q∧q < w.heap.size) (hL:∀ q,LS q→N≤q∧q < w.heap.size):Bx w0 w (Dk own N w.heap.size (.run a b)) a b g o (n,true,i) c (.agg #[.pointer none,vf]):=by
 unfold Bx
 rw [if_pos rfl]
 exact⟨B,vf,rfl,hB,hr.more (fun q hq=> Gp (hS q hq)) fun q hq=> Gp (hL q hq)⟩
theorem Ag4 {k:Nat} {ao:Option Addr} {cap:Nat} {rs:List Qh} (h:Bv w0 w own G F) (hi:Fz F) (ho:F.Aj[n]?=some o) (hrs:Cv rs=given o.rs o.fold o.early o.slices (chunks o) k) (hl:rs.length=o.parts.length) (hs:Sl 1 J6 w ao rs) (hrow:∀ r∈rs,Sl 2 Bq w r.1 r.2.2):
 Calls Tryz.prog 73 #[.int .i64 o.fold, .slice ao rs.length cap] w fun e w'=> (∃ g,e= .returned (.tuple #[.pointer (some ⟨g,0,none⟩), .nilIface])∧Gs w' w.heap.size o.fold (B8 o k) 0 (fun q=> w.heap.size≤q∧q < w'.heap.size) (fun q=> w.heap.size≤q∧q < w'.heap.size) (.pointer (some ⟨g,0,none⟩)))∧Below w.heap.size w w':=by
 have hf:=hi.Hj n o ho
 have hp:=hf.Ln
 have h1:=hf.Aei k
 have:=Ajx o.fold ao cap rs w hf.kind.1 (by omega) (by rw [hrs];omega) (by rw [hrs];exact Abz) hs hrow
 rw [hrs] at this
 exact this
theorem Ac0 {B k m c:Nat} {S LS:Nat→Prop} {v:Value} (h:Bv w0 w own G F) (hi:Fz F) (ho:F.Aj[n]?=some o) (hr:Gs w B o.fold (B8 o k) 0 S LS v) (hB:B≤w.heap.size) (hLS:∀ q,LS q→q < w.heap.size) (hst:Fa o.fold (B8 o k) m c) (hm:m≤(B8 o k).length) (hc:c≤(Ae o.fold (B8 o k)).length):
 Calls Tryz.prog 74 #[v, .string (tx (F8 m ((Ae o.fold (B8 o k)).take c)))] w fun e w'=> (e= .returned (.bool true)∧Gs w' B o.fold (B8 o k) c (fun q=> S q∨(w.heap.size≤q∧q < w'.heap.size)) LS v)∧Ab S w w':=
 Agr w h.gwl hB hr hLS hst hm hc ((hi.Hj n o ho).Xx k) ((hi.Hj n o ho).Te k c)
theorem Es.rowAt {j k:Nat} {p:As} (h:Es w0 w own n g o) (hp:o.parts[j]?=some p) (hst:p.st=2) (hk:k < o.slices) (hl:o.parts.length=(o.lines.length+o.size - 1) / o.size):
 ∃ lv ob a cap l,g.pl[j]?=some (lv, .slice (some ⟨ob,0,none⟩) o.slices o.slices)∧w.cell? ⟨ob,k,none⟩=some (.slice a l.length cap)∧Sl 2 Bq w a l∧(given o.rs o.fold o.early o.slices (chunks o) k)[j]?=some l∧own ob= .Kq∧∀ b o,a=some ⟨b,o,none⟩→own b= .Kq:=by
 have hjl:=(List.getElem?_eq_some_iff.1 hp).1
 have hj:j < g.pl.length:=by rw [h.pt.pn];exact hjl
 obtain⟨⟨lv,ov⟩,hpl⟩:∃ x,g.pl[j]?=some x:=⟨_,List.getElem?_eq_getElem hj⟩
 obtain⟨ob,vs,rfl,hr⟩:=h.pt.mp j p lv ov hp hpl hst
 have hlen:k < (Ke o.fold o.early o.slices (A9 o.rs o.fold (Ao o j))).length:=by rw [Aj2];exact hk
 obtain⟨v,l,hv,hlk,hown,hcell⟩:=hr.rws.row hlen
 obtain⟨a,cap,rfl⟩:=id hown.1
 refine⟨lv,ob,a,cap,l,hpl,hcell,hown.sl Bm,?_,hr.o1,fun b o e=> hr.o2 _ (List.mem_of_getElem? hv) b (by rw [e];rfl)⟩
 unfold given chunks
 rw [List.getElem?_map,List.getElem?_map,List.getElem?_range (by rw [←hl];exact hjl)]
 have:=Afr hk hlk
 rw [this];rfl
theorem K0 {w2 W7:World} {a b c:Nat} {t:Eg} {v:Value} (h2:Bv w0 w2 own G F) (hB:Below w2.heap.size w2 W7) (ha:a < 4) (hb:b < 3) (hon:∃ x,Aw F a b=some x) (hoff:∀ x,Aw F a b=some x→x.on=false) (hg:G.jg[t.1]?=some g) (ho:F.Aj[t.1]?=some o)
 (hr:Bx w0 W7 (Dk own w2.heap.size W7.heap.size (.run a b)) a b g o t c v):
 ∃ w8,(Instr.mapUpdate 87 (.map (some G.mb)) (Bz a b) v).run Tryz.prog (W7.drewN 1)= .ok () w8∧Ab (fun q=> own q= .runs) W7 w8∧w8.cell? ⟨G.fb,1,none⟩=some (.pointer (some ⟨G.bb,0,none⟩))∧
   ∀ nq,Calls Tryz.prog 77 #[.pointer (some ⟨G.bb,0,none⟩),Bz a b,Cu t] (w8.drewN nq) fun e w'=> e= .returned .nilIface∧Ab (fun q=> own q≠ .out) w2 w'∧∃ own' G',Bv w0 w' own' G' (Aq F a b ⟨true,t,c⟩)∧G'.fb=G.fb∧∀ q,q < w2.heap.size→own' q=own q:=by
 have h7:=(h2.Apg hB (.run a b)).later (below_drewN (Below.refl W7.heap.size W7) 1)
 obtain⟨w8,hrun,h8,k8⟩:=h7.Anl ha hb hoff hr.shape
 have hown:∀ q,Dk own w2.heap.size W7.heap.size (.run a b) q= .runs→own q= .runs:=fun q hq=> by
  by_cases hin:w2.heap.size≤q∧q < W7.heap.size
  ·rw [Gp hin] at hq;cases hq
  ·rw [Cd hin] at hq;exact hq
 have k8':Ab (fun q=> own q= .runs) W7 w8:=(Ab.Ag (S:=fun q=> own q= .runs) (below_drewN (Below.refl W7.heap.size W7) 1) (Nat.le_refl _)).trans (k8.mono hown)
 refine⟨w8,hrun,k8',h8.bk.get (j:=1) rfl,fun nq=> ?_⟩
 have h9:=h8.later (below_drewN (Below.refl w8.heap.size w8) nq)
 obtain⟨x,hx⟩:=hon
 have hr7:Bx w0 (w8.drewN nq) (Dk own w2.heap.size W7.heap.size (.run a b)) a b g o t c v:=by
  have k9:=k8'.trans (Ab.Ag (S:=fun q=> own q= .runs) (below_drewN (Below.refl w8.heap.size w8) nq) (Nat.le_refl _))
  refine hr.kept k9 fun q hq e=> ?_
  by_cases hin:w2.heap.size≤q∧q < W7.heap.size
  ·have:=h2.Dg hin.1
   rw [this] at hq;cases hq
  ·rw [Cd hin,hq] at e;cases e
 refine(Ajl h9 hx (hoff x hx) ⟨v,g,o,Hi _ _ _,hg,ho,hr7⟩).mono ?_
 rintro e w' ⟨rfl,k,hf⟩
 refine⟨rfl,?_,_,_,hf,rfl,fun q hq=> Cd (by omega)⟩
 have k1:Ab (fun q=> own q≠ .out) w2 W7:=Ab.Ag hB (Nat.le_refl _)
 have k2:Ab (fun q=> own q≠ .out) W7 w8:=k8'.mono fun q hq=> by rw [hq];simp
 have k3:Ab (fun q=> own q≠ .out) w8 (w8.drewN nq):=Ab.Ag (below_drewN (Below.refl w8.heap.size w8) nq) (Nat.le_refl _)
 refine((k1.trans k2).trans k3).trans (k.mono fun q hq=> ?_)
 by_cases hin:w2.heap.size≤q∧q < W7.heap.size
 ·rw [Gp hin] at hq;cases hq
 ·rw [Cd hin] at hq;rw [hq];simp
end
end Go.Proofs.YtbibeionenjmfaaGreatDoor
namespace Go.Proofs.YtbibeionenjmfaaGreatDoor
open Go.RowKit
def Fo (n:Nat) (many:Int) (p:As):Nat:=if 0 < many then n+min many.toNat (p.many - n) else n
theorem Pq {n:Nat} {many:Int} {p:As} {L:Nat} (hL:p.many=L) (hn:n≤L):min (n+many.toNat) L=Fo n many p:=by
 unfold Fo
 split <;> omega
section
variable {w0 w w' W:World} {own own':Nat→Eu} {G:Bb} {F F':Ad} {n:Nat} {g:El} {o:Bg}
theorem Adx {i c B:Nat} {S:Nat→Prop} {v:Value} (h:Bv w0 w own G F) (hi:Fz F) (hg:G.jg[n]?=some g) (ho:F.Aj[n]?=some o) (hr:D7 w B g.ro g.rc g.rs o.fold o.slices o.early (Ao o i) c S v) (hB:g.nb≤B∧w0.heap.size≤B∧B≤w.heap.size) (many:Int) (hmany:many≤9223372036854775807):
 Calls Tryz.prog 81 #[v, .int .i64 many] w fun e w'=> (e= .returned (.bool (decide (min (c+many.toNat) (Ao o i).length=(Ao o i).length)))∧D7 w' B g.ro g.rc g.rs o.fold o.slices o.early (Ao o i) (min (c+many.toNat) (Ao o i).length) (fun q=> S q∨w.heap.size≤q) v)∧Ab S w w':=by
 have hc:=h.js n g o hg ho
 have hf:=hi.Hj n o ho
 have h60:(Ao o i).length≤60:=by rw [Cn];unfold G7;have:=hf.lines;simp;omega
 refine Aha 6 many w hB.2.2 (fun w' b=> ?_) (fun w' b=> ?_) (Pf.of (by rw [hc.hd.rv];exact hf.ok)) hr (fun l hl=> by have:=hf.short l (Hu hl);omega) (by omega) hmany
 ·exact(h.gw.later (h.Gj.trans (b.mono hB.2.1)) (Nat.le_refl _)).gm
 ·have k:Ab (fun q=> B≤q) w w':=⟨b.os,b.tape,b.output,b.size,fun k _ hk=> b.block k (by omega)⟩
  have:=hc.hd.ru.kept k fun q hq e=> by have:=hq.2;omega
  exact⟨this.sl,this.Xp⟩
theorem Acr {k c B:Nat} {S LS:Nat→Prop} {v:Value} (hi:Fz F) (ho:F.Aj[n]?=some o) (hr:Gs w B o.fold (B8 o k) c S LS v) (hB:w0.heap.size≤B∧B≤w.heap.size) (many:Int) (hmany:many≤9223372036854775807):
 Calls Tryz.prog 80 #[v, .int .i64 many] w fun e w'=> (e= .returned (.bool (decide (min (c+many.toNat) (Ae o.fold (B8 o k)).length=(Ae o.fold (B8 o k)).length)))∧Gs w' B o.fold (B8 o k) (min (c+many.toNat) (Ae o.fold (B8 o k)).length) (fun q=> (S q∨w.heap.size≤q)∧q < w'.heap.size) LS v)∧Ab S w w':=
 Af8 many w hB.2 hr (by have:=((hi.Hj n o ho).Xx k).1;omega) hmany
set_option maxRecDepth 100000 in
set_option maxHeartbeats 4000000 in
theorem Ach {a b:Nat} {t:F3} {v:Value} {p:As} (h:Bv w0 w own G F) (hi:Fz F) (ht:Aw F a b=some t) (hon:t.on=true) (hv:G.rf (Bz a b)=some v) (hp:ofM F t.t=some p) (hat:t.at_≤p.many) (many:Int) (hmany:many≤9223372036854775807):
 Calls Tryz.prog 47 #[v, .int .i64 many] w fun e w'=> e= .returned (.bool (decide (¬ Fo t.at_ many p < p.many)))∧Ab (fun q=> own q= .run a b) w w'∧Bv w0 w' (Dk own w.heap.size w'.heap.size (.run a b)) G (Aq F a b {t with at_:=Fo t.at_ many p}):=by
 obtain⟨v',g,o,hv',hg,ho,hr⟩:=h.rr a b t ht hon
 rw [hv] at hv'
 cases hv'
 obtain⟨o',ho',hpl⟩:=Iy hp
 rw [ho] at ho'
 cases ho'
 have hpm:=(hi.part _ o t.t.2.1 t.t.2.2 p ho hpl).many
 obtain⟨⟨n,fo,i⟩,hte⟩:∃ x,x=t.t:=⟨_,rfl⟩
 rw [←hte] at hg ho hr hp hpl hpm
 dsimp only at hg ho hr hp hpl hpm
 cases fo with
 | false=>
   unfold Bx at hr
   rw [if_neg (by simp)] at hr
   obtain⟨B,vm,rfl,hB,hr⟩:=hr
   obtain⟨gp,rfl⟩:=hr.ptr
   obtain⟨W,hW⟩:∃ W,W=w.alloc (.cells #[.pointer (some ⟨gp,0,none⟩), .pointer none] 112):=⟨_,rfl⟩
   have hb:Below w.heap.size w W:=by rw [hW];exact ba w _
   have hx:Bk W w.heap.size [.pointer (some ⟨gp,0,none⟩), .pointer none]:=by rw [hW];exact Bk.new rfl
   have hbs:=hb.size
   have HS:=Aa (Adx (h.later hb) hi hg ho (hr.bd.kept (Ab.Ag (S:=fun _=> False) hb (Nat.le_refl _)) (fun q hq=> id)) ⟨hB.1,hB.2.1,by omega⟩ many hmany)
   have HEND:Hid (∀ w',Ab (fun q=> own q= .run a b∧q < w.heap.size) W w'→D7 w' B g.ro g.rc g.rs o.fold o.slices o.early (Ao o i) (min (t.at_+many.toNat) (Ao o i).length) (fun q=> (own q= .run a b∧q < w.heap.size)∨W.heap.size≤q) (.pointer (some ⟨gp,0,none⟩))→Ab (fun q=> own q= .run a b) w w'∧Bv w0 w' (Dk own w.heap.size w'.heap.size (.run a b)) G (Aq F a b {t with at_:=Fo t.at_ many p})):=by
    intro w' k hr'
    have k2:Ab (fun q=> own q= .run a b) w w':=(Ab.Ag (S:=fun q=> own q= .run a b) hb (Nat.le_refl _)).trans (k.mono fun q hq=> hq.1)
    refine⟨k2,h.run k2 ht (by rw [←hte];exact hg) (by rw [←hte];exact ho) hv ?_⟩
    rw [←hte]
    unfold Bx
    rw [if_neg (by simp)]
    refine⟨B,_,rfl,⟨hB.1,hB.2.1,Nat.le_trans hB.2.2 k2.size⟩,?_⟩
    rw [←Pq (L:=(Ao o i).length) (by rw [hpm,Cn]) (by rw [Cn,←hpm];exact hat)]
    refine hr'.bd.more fun q hq=> ?_
    rcases hq.1 with e | e
    ·rw [Cd (by omega)];exact e.1
    ·exact Gp ⟨by omega,hq.2⟩
   have HD:Hid (decide (min (t.at_+many.toNat) (Ao o i).length=(Ao o i).length)=decide (¬ Fo t.at_ many p < p.many)):=by
    have h1:p.many=(Ao o i).length:=by rw [hpm,Cn]
    have h2:Fo t.at_ many p≤p.many:=by unfold Fo;split <;> omega
    show _=_
    rw [Pq h1 (by omega)]
    exact decide_eq_decide.2 (by omega)
   have x0:=hx.get (j:=0) rfl
   have x1:=hx.get (j:=1) rfl
   clear h hi ht hv hp hat hr hg ho hb hx hB hpl hpm hbs
   go_enter Tryz.func47,Tryz.ntmps47
   go_upto_region 1 with (fail)
   rw [←hW]
   clear hW
   go_wp2_with fail
   refine HS.out.mono ?_
   rintro e w1 ⟨⟨rfl,hr1⟩,k1⟩
   have HF:=Aa (HEND.out w1 k1 hr1)
   rw [HD.out]
   clear HS HEND hr1 k1 x0 x1
   go_wp2
   exact bodyPost_ret (v:= .bool (decide (¬ Fo t.at_ many p < p.many))) (by simp [results,Tryz.results47,go_sem]) rfl ⟨rfl,HF.out⟩
 | true=>
   unfold Bx at hr
   rw [if_pos rfl] at hr
   obtain⟨B,vf,rfl,hB,hr⟩:=hr
   obtain⟨gp,rfl⟩:=hr.ptr
   obtain⟨W,hW⟩:∃ W,W=w.alloc (.cells #[.pointer none, .pointer (some ⟨gp,0,none⟩)] 112):=⟨_,rfl⟩
   have hb:Below w.heap.size w W:=by rw [hW];exact ba w _
   have hx:Bk W w.heap.size [.pointer none, .pointer (some ⟨gp,0,none⟩)]:=by rw [hW];exact Bk.new rfl
   have hbs:=hb.size
   have HS:=Aa (Acr (w0:=w0) (n:=n) hi ho (hr.later hb) ⟨hB.1,by omega⟩ many hmany)
   have hf:=hi.Hj n o ho
   have hk:i < o.slices:=by rw [←hf.M4];exact(List.getElem?_eq_some_iff.1 hpl).1
   have hgl:(Ae o.fold (B8 o i)).length=p.many:=by rw [hpm,hf.Ld hk];rfl
   have HEND:Hid (∀ w',Ab (fun q=> own q= .run a b) W w'→Gs w' B o.fold (B8 o i) (min (t.at_+many.toNat) (Ae o.fold (B8 o i)).length) (fun q=> (own q= .run a b∨W.heap.size≤q)∧q < w'.heap.size) (fun q=> own q= .run a b) (.pointer (some ⟨gp,0,none⟩))→Ab (fun q=> own q= .run a b) w w'∧Bv w0 w' (Dk own w.heap.size w'.heap.size (.run a b)) G (Aq F a b {t with at_:=Fo t.at_ many p})):=by
    intro w' k hr'
    have hlt:∀ q,own q= .run a b→q < w.heap.size:=fun q hq=> (h.lo q (by rw [hq];simp)).2
    have k2:Ab (fun q=> own q= .run a b) w w':=(Ab.Ag (S:=fun q=> own q= .run a b) hb (Nat.le_refl _)).trans k
    refine⟨k2,h.run k2 ht (by rw [←hte];exact hg) (by rw [←hte];exact ho) hv ?_⟩
    rw [←hte]
    unfold Bx
    rw [if_pos rfl]
    refine⟨B,_,rfl,⟨hB.1,Nat.le_trans hB.2 k2.size⟩,?_⟩
    rw [←Pq (L:=(Ae o.fold (B8 o i)).length) hgl.symm (by rw [hgl];exact hat)]
    refine hr'.more (fun q hq=> ?_) fun q hq=> ?_
    ·rcases hq.1 with e | e
     ·rw [Cd (by have:=hlt q e;omega)];exact e
     ·exact Gp ⟨by omega,hq.2⟩
    ·rw [Cd (by have:=hlt q hq;omega)];exact hq
   have HD:Hid (decide (min (t.at_+many.toNat) (Ae o.fold (B8 o i)).length=(Ae o.fold (B8 o i)).length)=decide (¬ Fo t.at_ many p < p.many)):=by
    have h2:Fo t.at_ many p≤p.many:=by unfold Fo;split <;> omega
    show _=_
    rw [Pq hgl.symm (by omega)]
    exact decide_eq_decide.2 (by omega)
   have x0:=hx.get (j:=0) rfl
   have x1:=hx.get (j:=1) rfl
   clear h hi ht hv hp hat hr hg ho hb hx hB hpl hpm hbs hf hk hgl
   go_enter Tryz.func47,Tryz.ntmps47
   go_upto_region 1 with (fail)
   rw [←hW]
   clear hW
   go_wp2_with fail
   refine HS.out.mono ?_
   rintro e w1 ⟨⟨rfl,hr1⟩,k1⟩
   have HF:=Aa (HEND.out w1 k1 hr1)
   rw [HD.out]
   clear HS HEND hr1 k1 x0 x1
   go_wp2
   exact bodyPost_ret (v:= .bool (decide (¬ Fo t.at_ many p < p.many))) (by simp [results,Tryz.results47,go_sem]) rfl ⟨rfl,HF.out⟩
end
end Go.Proofs.YtbibeionenjmfaaGreatDoor
namespace Go.Proofs.YtbibeionenjmfaaGreatDoor
open Go.RowKit
section
variable {w0 w w' W:World} {own own':Nat→Eu} {G:Bb} {F F':Ad} {n:Nat} {g:El} {o:Bg}
def B3 (w0 w:World) (own:Nat→Eu) (G:Bb) (F':Ad) (w':World):Prop:=
 (∃ own' G',Bv w0 w' own' G' F'∧G'.fb=G.fb∧∀ q,q < w.heap.size→own' q=own q)∧Ab (fun q=> own q≠ .out) w w'
set_option maxRecDepth 100000 in
set_option maxHeartbeats 4000000 in
theorem Abf {a b i:Nat} {p:As} (h:Bv w0 w own G F) (hi:Fz F) (ha:a < 4) (hb:b < 3) (hon:∃ t,Aw F a b=some t) (hoff:∀ t,Aw F a b=some t→t.on=false) (hg:G.jg[n]?=some g) (ho:F.Aj[n]?=some o) (hp:o.parts[i]?=some p) (hst:¬ p.st=2):
 Calls Tryz.prog 44 #[.pointer (some ⟨G.fb,0,none⟩), .agg #[.int .i64 a, .int .i64 b], .agg #[.int .i64 n, .bool false, .int .i64 i]] w fun e w'=> e= .returned .nilIface∧B3 w0 w own G (Br F a b (n,false,i)) w':=by
 obtain⟨W,hW⟩:∃ W,W=(w.alloc (.cells #[.int .i64 a, .int .i64 b] 60)).alloc (.cells #[.int .i64 n, .bool false, .int .i64 i] 33):=⟨_,rfl⟩
 have hb0:Below w.heap.size w W:=by rw [hW];exact(ba w _).alloc (by simp) _
 have hpb:Bk W w.heap.size [.int .i64 a, .int .i64 b]:=by rw [hW];exact(Bk.new rfl).alloc _
 have htb:Bk W (w.heap.size+1) [.int .i64 n, .bool false, .int .i64 i]:=by
  rw [hW]
  have:=Bk.new (w:=w.alloc (.cells #[.int .i64 a, .int .i64 b] 60)) (cs:= #[.int .i64 n, .bool false, .int .i64 i]) (t:=33) rfl
  simpa using this
 have hW1:=h.later hb0
 obtain⟨g',gb,cap,hg',ej,cn,hjc,hgb⟩:=hW1.T4 ho
 rw [hg] at hg'
 obtain rfl:=Option.some.inj hg'
 have hnl:=(List.getElem?_eq_some_iff.1 ho).1
 have f1:(n:Int) < (F.Aj.length:Int):=by omega
 have cj:=hW1.bk.get (j:=3) rfl
 rw [ej] at cj
 have t0:=htb.get (j:=0) rfl
 have t1:=htb.get (j:=1) rfl
 have t2:=htb.get (j:=2) rfl
 have x5:=hjc.hd.bk.get (j:=5) rfl
 have HBG:=Aa fun nq=> R4 (fold:=false) (hW1.later (below_drewN (Below.refl _ _) nq)) hg ho hp (by unfold Kk;simp [hst])
 have HW:=Aa hW
 have HH:=Aa h
 have HWS:Hid (w.heap.size+2≤W.heap.size):=by rw [hW];show _≤_;simp
 have HB0:=Aa hb0
 have HPB:=Aa hpb
 have HTB:=Aa htb
 clear hW h hb0 hpb htb hW1 hjc ej hg'
 go_enter Tryz.func44,Tryz.ntmps44
 go_upto_region 1 with (fail)
 rw [←HW.out]
 clear HW
 go_quiet (fail)
 go_upto_region 2 with (fail)
 refine Bi 8 (by kernel_rfl) (by kernel_rfl) ?_
 simp only [List.take_succ_cons,List.take_zero,List.drop_succ_cons,List.drop_zero]
 repeat still_step
 refine wpStill_nil ?_
 go_wp2_with fail
 refine(HBG.out (nq+1)).mono ?_
 rintro e w2 ⟨rfl,k2,h2⟩
 have hk2:Ab (fun q=> own q= .Lz n) W w2:=(Ab.Ag (S:=fun q=> own q= .Lz n) (below_drewN (Below.refl W.heap.size W) (nq+1)) (Nat.le_refl _)).trans k2
 have ho0:own w.heap.size= .out:=HH.out.Dg (Nat.le_refl _)
 have ho1:own (w.heap.size+1)= .out:=HH.out.Dg (by omega)
 have hpb2:=HPB.out.kept hk2 (by rw [ho0];simp)
 have htb2:=HTB.out.kept hk2 (by rw [ho1];simp)
 obtain⟨F2,hF2⟩:∃ F2,F2=setOf F (n,false,i) fun p=> {p with st:=1}:=⟨_,rfl⟩
 have h2':Bv w0 w2 own G F2:=by rw [hF2];exact h2
 obtain⟨o2,ho2⟩:∃ o2,o2=A1 o false i fun p=> {p with st:=1}:=⟨_,rfl⟩
 have hoo:F2.Aj[n]?=some o2:=by
  rw [hF2,ho2]
  show(F.Aj.modify n _)[n]?=_
  rw [Hl _ ho]
  exact List.getElem?_set_self hnl
 have hs2:Ej o o2:=by rw [ho2];exact Ej.A1 o false i _
 have hi2:Fz F2:=by rw [hF2];exact Aes hi _
 have hc2:=h2'.js n g o2 hg hoo
 obtain⟨p2,hp2,hps⟩:∃ p2,(Er o2 false)[i]?=some p2∧p2.saved=p.saved:=by
  refine⟨{p with st:=1},?_,rfl⟩
  rw [ho2,Lc,if_pos ⟨rfl,rfl⟩]
  show(o.parts[i]?).map _=_
  rw [hp];rfl
 obtain⟨sv,is,hlk1,hlk2,his0,his1⟩:=hc2.Ut hp2
 rw [hps] at his0 his1
 have hil:i < o2.parts.length:=(List.getElem?_eq_some_iff.1 hp2).1
 obtain⟨pa,pc,hpv,hps2,_⟩:=hc2.X5
 obtain⟨pb,poff,lv,ov,rfl,hpblt,hplk,y0,y1⟩:=hps2.part (k:=i) (by rw [hc2.pt.pn];exact hil)
 obtain⟨la,lc,rfl,hsl,hln,_⟩:=hc2.pt.li i lv ov hplk
 obtain⟨W3,hW3⟩:∃ W3,W3=w2.alloc (.cells #[.pointer none, .pointer none] 112):=⟨_,rfl⟩
 have hb3:Below w2.heap.size w2 W3:=by rw [hW3];exact ba w2 _
 have hrb:Bk W3 w2.heap.size [.pointer none, .pointer none]:=by rw [hW3];exact Bk.new rfl
 have h3:=h2'.later hb3
 have hlook:∀ nq,(Instr.lookup 99 (.map (some g.mb)) (.agg #[.int .i64 n, .bool false, .int .i64 i]) true).run Tryz.prog (W3.drewN nq)= .ok (.tuple #[.string sv, .bool is]) (W3.drewN nq):=fun nq=> by
  have h4:=((h3.later (below_drewN (Below.refl _ _) nq)).js n g o2 hg hoo).Ws false i (by have:=hi.jl;omega) (by have:=(hi2.Hj n o2 hoo).Ln;omega)
  rw [hlk1,hlk2] at h4
  exact h4
 have x8:=cell_later hb3 (hc2.hd.bk.get (j:=8) rfl)
 have t0:=cell_later hb3 (htb2.get (j:=0) rfl)
 have t1:=cell_later hb3 (htb2.get (j:=1) rfl)
 have t2:=cell_later hb3 (htb2.get (j:=2) rfl)
 have x1:=cell_later hb3 (hc2.hd.bk.get (j:=1) rfl)
 have x2:=cell_later hb3 (hc2.hd.bk.get (j:=2) rfl)
 have x3:=cell_later hb3 (hc2.hd.bk.get (j:=3) rfl)
 have x4:=cell_later hb3 (hc2.hd.bk.get (j:=4) rfl)
 have x6:=cell_later hb3 (hc2.hd.bk.get (j:=6) rfl)
 rw [hpv] at x6
 have q0:=cell_later hb3 y0
 have f2:(i:Int) < (o2.parts.length:Int):=by omega
 have HK2:=Aa hk2
 have HF2:=Aa hF2
 have H2:=Aa h2'
 have H3:=Aa h3
 have HW3:=Aa hW3
 have HB3:=Aa hb3
 have HRB:=Aa hrb
 have HPB2:=Aa (hpb2.later hb3)
 have HTB4:=Aa (htb2.later hb3)
 have HSL:=Aa (hsl.later hb3 (Nat.le_refl _))
 have HI2:=Aa hi2
 have HOO:=Aa hoo
 have HIS:=Aa (And.intro his0 his1)
 have HLL:=Aa (Cn o2 i)
 have HP2:=Aa hp2
 have HPS:=Aa hps
 clear hk2 hF2 h2 h2' h3 hW3 hb3 hrb hpb2 htb2 hsl hi2 hoo his0 his1 hlk1 hlk2 hp2 hps y0 y1 hplk hps2 hpblt hc2 hpv k2 ho2 x5 cn cj f1 hgb HBG HPB HTB hs2 ho0 ho1
 go_upto_region 6 with (fail)
 rw [←HW3.out]
 clear HW3
 go_quiet (fail)
 go_upto_region 17 with (fail)
 have b4:Below W3.heap.size W3 (W3.drewN nq):=below_drewN (Below.refl _ _) nq
 generalize W3.drewN nq=W4 at *
 replace t2:=cell_later b4 t2
 replace t0:=cell_later b4 t0
 replace t1:=cell_later b4 t1
 replace x1:=cell_later b4 x1
 replace x2:=cell_later b4 x2
 replace x3:=cell_later b4 x3
 replace x4:=cell_later b4 x4
 replace x6:=cell_later b4 x6
 replace q0:=cell_later b4 q0
 replace HRB:=Aa (HRB.out.later b4)
 replace HPB2:=Aa (HPB2.out.later b4)
 replace HTB4:=Aa (HTB4.out.later b4)
 replace HSL:=Aa (HSL.out.later b4 (Nat.le_refl _))
 replace HB3:=Aa (HB3.out.trans (b4.mono HB3.out.size))
 replace H3:=Aa (H3.out.later b4)
 clear b4 hlook x8
 have HMN:=Aa fun w' (k:Below W4.heap.size W4 w')=> Agx (H3.out.later k) HI2.out hg HOO.out (HSL.out.later k (Nat.le_refl _)) hln
 have HLK:Hid (w2.heap.size < W4.heap.size):=HRB.out.lt
 refine wp_region_noPanic ?_
 refine Ah (S:=(fun w'=> Below W4.heap.size W4 w')) (E:= [18,19]) (by kernel_rfl) ?_ (fun hHeld=> ?_)
 ·(first | exact(Below.refl _ _).drew | exact hHeld.trans (b1.mono hHeld.size) | exact hHeld)
 try dsimp only [List.size_toArray,List.length_cons,List.length_nil,Nat.reduceAdd]
 refine hP 0 (v:=?_) rfl (by kernel_rfl) (by rfl) ?_ ?_
 rotate_left
 focus (intro w;go_simp;try with_reducible rfl)
 refine hP 4 (v:=?_) rfl (by kernel_rfl) (by rfl) ?_ ?_
 rotate_left
 focus (intro w;go_simp;try with_reducible rfl)
 refine hP 8 (v:=?_) rfl (by kernel_rfl) (by rfl) ?_ ?_
 rotate_left
 focus (intro w;go_simp;try with_reducible rfl)
 refine hP 1 (v:=?_) rfl (by kernel_rfl) (by rfl) ?_ ?_
 rotate_left
 focus (intro w;go_simp;try with_reducible rfl)
 refine hP 5 (v:=?_) rfl (by kernel_rfl) (by rfl) ?_ ?_
 rotate_left
 focus (intro w;go_simp;try with_reducible rfl)
 refine hT 9 [[9], [9]] (v:=?_) rfl (by kernel_rfl) (by rfl) (by assumption) ?_ ?_
 rotate_left
 focus (intro w hSw;(try dsimp only at hSw);(have r1:=cell_later hSw x1;have r2:=cell_later hSw x2;have r3:=cell_later hSw x3;have r4:=cell_later hSw x4;have r6:=cell_later hSw x6;have rq:=cell_later hSw q0;have rt:=cell_later hSw t2);go_simp;try with_reducible rfl)
 refine hP 2 (v:=?_) rfl (by kernel_rfl) (by rfl) ?_ ?_
 rotate_left
 focus (intro w;go_simp;try with_reducible rfl)
 refine hP 6 (v:=?_) rfl (by kernel_rfl) (by rfl) ?_ ?_
 rotate_left
 focus (intro w;go_simp;try with_reducible rfl)
 refine hT 3 [[3], [3]] (v:=?_) rfl (by kernel_rfl) (by rfl) (by assumption) ?_ ?_
 rotate_left
 focus (intro w hSw;(try dsimp only at hSw);(have r1:=cell_later hSw x1;have r2:=cell_later hSw x2;have r3:=cell_later hSw x3;have r4:=cell_later hSw x4;have r6:=cell_later hSw x6;have rq:=cell_later hSw q0;have rt:=cell_later hSw t2);go_simp;try with_reducible rfl)
 refine hT 7 [[7], [7]] (v:=?_) rfl (by kernel_rfl) (by rfl) (by assumption) ?_ ?_
 rotate_left
 focus (intro w hSw;(try dsimp only at hSw);(have r1:=cell_later hSw x1;have r2:=cell_later hSw x2;have r3:=cell_later hSw x3;have r4:=cell_later hSw x4;have r6:=cell_later hSw x6;have rq:=cell_later hSw q0;have rt:=cell_later hSw t2);go_simp;try with_reducible rfl)
 refine hP 10 (v:=?_) rfl (by kernel_rfl) (by rfl) ?_ ?_
 rotate_left
 focus (intro w;go_simp;try with_reducible rfl)
 refine hP 11 (v:=?_) rfl (by kernel_rfl) (by rfl) ?_ ?_
 rotate_left
 focus (intro w;go_simp;try with_reducible rfl)
 refine hT 12 [[12], [12]] (v:=?_) rfl (by kernel_rfl) (by rfl) (by assumption) ?_ ?_
 rotate_left
 focus (intro w hSw;(try dsimp only at hSw);(have r1:=cell_later hSw x1;have r2:=cell_later hSw x2;have r3:=cell_later hSw x3;have r4:=cell_later hSw x4;have r6:=cell_later hSw x6;have rq:=cell_later hSw q0;have rt:=cell_later hSw t2);go_simp;try with_reducible rfl)
 try simp only [Act.put,List.setIfInBounds_toArray,List.set_cons_zero,List.set_cons_succ]
 refine hR [13] (by kernel_rfl) (by simp) (Ac.cons rfl (fun KH hKH=> ?_) .nil)
 go_simp
 (go_at_call 75;refine(HMN.out _ hHeld).mono ?_;rintro e w5 ⟨⟨vm,rfl,hr5⟩,b1⟩;obtain⟨gm,rfl⟩:=hr5.ptr)
 try go_wp2_with fail
 refine hKH.out _ _ ?_ (fun hNew=> ?_)
 ·(first | exact(Below.refl _ _).drew | exact hHeld.trans (b1.mono hHeld.size) | exact hHeld)
 clear hKH KH hHeld
 have hHeld:=hNew
 clear hNew
 try simp only [Act.put,List.setIfInBounds_toArray,List.set_cons_zero,List.set_cons_succ]
 refine hP 14 (v:=?_) rfl (by kernel_rfl) (by rfl) ?_ ?_
 rotate_left
 focus (intro w;go_simp;try with_reducible rfl)
 refine hP 15 (v:=?_) rfl (by kernel_rfl) (by rfl) ?_ ?_
 rotate_left
 focus (intro w;go_simp;try with_reducible rfl)
 refine hP 16 (v:=?_) rfl (by kernel_rfl) (by rfl) ?_ ?_
 rotate_left
 focus (intro w;go_simp;try with_reducible rfl)
 refine hP 17 (v:=?_) rfl (by kernel_rfl) (by rfl) ?_ ?_
 rotate_left
 focus (intro w;go_simp;try with_reducible rfl)
 try simp only [Act.put,List.setIfInBounds_toArray,List.set_cons_zero,List.set_cons_succ]
 refine hR [18] (by kernel_rfl) (by simp) (Ac.A7 rfl (by kernel_rfl) (fun KH hKH=> ?_) .nil)
 have HBX:=Aa hHeld
 have hrb5:=HRB.out.later hHeld
 have s0:=hrb5.get (j:=0) rfl
 have z0:=hrb5.fz 0
 go_simp
 refine hKH.out _ _ ?_
 clear hKH KH
 try clear hHeld
 try simp only [Act.put,List.setIfInBounds_toArray,List.set_cons_zero,List.set_cons_succ]
 refine hR [19] (by kernel_rfl) (by simp) (Ac.A7 rfl (by kernel_rfl) (fun KH hKH=> ?_) .nil)
 go_simp
 refine hKH.out _ _ ?_
 clear hKH KH
 try clear hHeld
 refine Ai (by kernel_rfl) ?_ _
 refine NoPanic.normal ?_
 have HEND:Hid (∀ (w9:World) (own9:Nat→Eu) (G9:Bb),Bv w0 w9 own9 G9 (Aq F2 a b ⟨true,(n,false,i),p.saved.toNat⟩)→G9.fb=G.fb→(∀ q,q < w2.heap.size→own9 q=own q)→Ab (fun q=> own q≠ .out) w2 w9→B3 w0 w own G (Br F a b (n,false,i)) w9):=fun w9 own9 G9 h9 e9 a9 k9=> by
  have hbm:Br F a b (n,false,i)=Aq F2 a b ⟨true,(n,false,i),p.saved.toNat⟩:=by
   unfold Br
   rw [←HF2.out]
   have:ofM F (n,false,i)=some p:=by unfold ofM;rw [ho];exact hp
   rw [this];rfl
  rw [hbm]
  have hw2:w.heap.size≤w2.heap.size:=Nat.le_trans HB0.out.size HK2.out.size
  refine⟨⟨own9,G9,h9,e9,fun q hq=> a9 q (by omega)⟩,?_⟩
  exact((Ab.Ag (S:=fun q=> own q≠ .out) HB0.out (Nat.le_refl _)).trans (HK2.out.mono fun q hq=> by rw [hq];simp)).trans k9
 have HNR:Hid (¬ own w.heap.size= .runs∧¬ own (w.heap.size+1)= .runs):=by
  rw [HH.out.Dg (Nat.le_refl _),HH.out.Dg (Nat.le_succ _)]
  exact⟨by simp,by simp⟩
 have HON:Hid (∃ x,Aw F2 a b=some x):=by rw [HF2.out];exact hon
 have HOFF:Hid (∀ x,Aw F2 a b=some x→x.on=false):=by rw [HF2.out];exact hoff
 obtain⟨W6,hW6⟩:∃ W6,W6=w5.setCell ⟨w2.heap.size,0,none⟩ (.pointer (some ⟨gm,0,none⟩)):=⟨_,rfl⟩
 have k6:Ab (fun q=> q=w2.heap.size) w5 W6:=by rw [hW6];exact(Ab.refl (fun q=> q=w2.heap.size) w5).setCell (p:=⟨w2.heap.size,0,none⟩) rfl _
 have hb6:Below w2.heap.size w2 W6:=by
  rw [hW6]
  exact(HB3.out.trans (HBX.out.mono HB3.out.size)).setCell (p:=⟨w2.heap.size,0,none⟩) (Nat.le_refl _) _
 have hlw:w.heap.size+1 < w2.heap.size:=by
  have h1:=HTB4.out.lt
  have h2:w.heap.size+2≤W.heap.size:=HWS.out
  have h3:=HK2.out.size
  omega
 have hrb6:Bk W6 w2.heap.size [.pointer (some ⟨gm,0,none⟩), .pointer none]:=by rw [hW6];exact hrb5.set (k:=0) (u:= .pointer none) _ rfl
 have hp6:=(HPB2.out.later HBX.out).kept k6 (by omega)
 have ht6:=(HTB4.out.later HBX.out).kept k6 (by omega)
 have hm6:=(hr5.kept k6 fun q hq e=> by have h1:=hq.1;have h2:W4.drew.heap.size=W4.heap.size:=rfl;have h3:=HLK.out;omega)
 have hB6:g.nb≤W4.drew.heap.size∧w0.heap.size≤W4.drew.heap.size∧W4.drew.heap.size≤W6.heap.size:=by
  have h1:g.nb≤W4.heap.size:=(H3.out.js n g o2 hg HOO.out).hd.nb
  have h2:w0.heap.size≤W4.heap.size:=H3.out.Gj.size
  have h3:=HBX.out.size
  have h4:=k6.size
  exact⟨h1,h2,Nat.le_trans h3 h4⟩
 have hS6:∀ q,(W4.drew.heap.size≤q∧q < w5.heap.size)→w2.heap.size≤q∧q < W6.heap.size:=fun q hq=> by
  have h1:W4.drew.heap.size=W4.heap.size:=rfl
  have h2:=HLK.out
  have h3:=k6.size
  omega
 rw [←hW6]
 clear hW6 k6 hrb5 s0 z0 b1 hr5 HBX HMN HPB2 HTB4 HRB t0 t1 t2 x1 x2 x3 x4 x6 q0 HB3 H3 HSL
 have HB6:=Aa hb6
 have HR6:=Aa hrb6
 have HP6:=Aa hp6
 have HT6:=Aa ht6
 have HM6:=Aa hm6
 have HBB:=Aa hB6
 have HS6:=Aa hS6
 have hr60:=hrb6.get (j:=0) rfl
 clear hb6 hrb6 hp6 ht6 hm6 hB6 hS6
 cases is with
 | false=>
   have hc0:p.saved.toNat=0:=by have:=HIS.out.1 rfl;omega
   rw [hc0] at HEND
   have HRI:Hid (Bx w0 W6 (Dk own w2.heap.size W6.heap.size (.run a b)) a b g o2 (n,false,i) 0 (.agg #[.pointer (some ⟨gm,0,none⟩), .pointer none])):=Bx.ofM HM6.out HBB.out HS6.out
   have HB7:=HB6
   have HR7:=HR6
   have HP7:=HP6
   have HT7:=HT6
   clear HB6 HR6 HP6 HT6 HM6 HBB HS6 hr60 HIS HLK hc0
   obtain⟨w8,hrun8,k8,cb8,hput⟩:=K0 H2.out HB7.out ha hb HON.out HOFF.out hg HOO.out HRI.out
   have HPUT:=Aa (hput 1)
   have hp0:=HP7.out.get (j:=0) rfl
   have hp1:=HP7.out.get (j:=1) rfl
   have ht0:=HT7.out.get (j:=0) rfl
   have ht1:=HT7.out.get (j:=1) rfl
   have ht2:=HT7.out.get (j:=2) rfl
   have hr0:=HR7.out.get (j:=0) rfl
   have hr1:=HR7.out.get (j:=1) rfl
   have cm7:=((H2.out.later HB7.out).bk.get (j:=2) rfl)
   have hp8:=HP7.out.kept k8 HNR.out.1
   have ht8:=HT7.out.kept k8 HNR.out.2
   have sp0:=hp8.get (j:=0) rfl
   have sp1:=hp8.get (j:=1) rfl
   have st0:=ht8.get (j:=0) rfl
   have st1:=ht8.get (j:=1) rfl
   have st2:=ht8.get (j:=2) rfl
   have HRUN8:=Aa hrun8
   clear hput k8 hp8 ht8 hrun8
   go_upto_region 20 with (fail)
   refine Bi 6 (by kernel_rfl) (by kernel_rfl) ?_
   simp only [List.take_succ_cons,List.take_zero,List.drop_succ_cons,List.drop_zero]
   repeat still_step
   refine wpStill_nil ?_
   go_wp2_with (at_mapUpdate;refine Gx rfl _ _ _ 87 rfl G.mb (Bz a b) _ rfl rfl rfl HRUN8.out ?_)
   clear hp0 hp1 ht0 ht1 ht2 hr0 hr1 cm7 HRUN8
   go_upto_region 21 with (fail)
   refine Bi 6 (by kernel_rfl) (by kernel_rfl) ?_
   simp only [List.take_succ_cons,List.take_zero,List.drop_succ_cons,List.drop_zero]
   repeat still_step
   refine wpStill_nil ?_
   go_wp2_with fail
   refine HPUT.out.mono ?_
   rintro e w9 ⟨rfl,k9,own9,G9,h9,e9,a9⟩
   have HFIN:=Aa (HEND.out w9 own9 G9 h9 e9 a9 k9)
   clear k9 h9 e9 a9 HPUT
   go_wp2
   go_ret
   exact⟨rfl,HFIN.out⟩
 | true=>
   obtain⟨hs0,hss⟩:=HIS.out.2 rfl
   have hsv:sv=tx (F8 p.saved.toNat (A9 o2.rs o2.fold ((Ao o2 i).take p.saved.toNat))):=by
    have:=hss
    unfold Oh at this
    simpa using this
   subst hsv
   have hmle:p.saved.toNat≤(Ao o2 i).length:=by
    have hpk:=HI2.out.part n o2 false i _ HOO.out HP2.out
    have h1:=hpk.saved.2
    have h2:=hpk.many
    rw [HPS.out] at h1
    rw [HLL.out,←h2]
    omega
   have HLO:=Aa (Ab5 (H2.out.later HB6.out) HI2.out hg HOO.out HM6.out HBB.out.2.2 hmle)
   generalize tx (F8 p.saved.toNat (A9 o2.rs o2.fold ((Ao o2 i).take p.saved.toNat)))=sv at *
   clear hmle hss hs0
   go_wp2_with fail
   refine HLO.out.mono ?_
   rintro e W7 ⟨⟨rfl,hm7⟩,k7⟩
   have hb7:Below w2.heap.size w2 W7:=HB6.out.trans (k7.below (fun q hq=> (HS6.out q hq).1) HB6.out.size)
   have h45:W4.drew.heap.size=W4.heap.size:=rfl
   have HLKo:=HLK.out
   have HRI:Hid (Bx w0 W7 (Dk own w2.heap.size W7.heap.size (.run a b)) a b g o2 (n,false,i) p.saved.toNat (.agg #[.pointer (some ⟨gm,0,none⟩), .pointer none])):=by
    refine Bx.ofM hm7.bd ⟨HBB.out.1,HBB.out.2.1,Nat.le_trans HBB.out.2.2 k7.size⟩ fun q hq=> ⟨?_,hq.2⟩
    rcases hq.1 with h1 | h1
    ·exact(HS6.out q h1).1
    ·exact Nat.le_trans HB6.out.size h1
   have HR7:=Aa (HR6.out.kept k7 fun e=> by have:=e.1;omega)
   have HP7:=Aa (HP6.out.kept k7 fun e=> by have:=e.1;omega)
   have HT7:=Aa (HT6.out.kept k7 fun e=> by have:=e.1;omega)
   have HB7:=Aa hb7
   clear HB6 HR6 HP6 HT6 HM6 HBB HS6 hr60 HIS HLK hb7 h45 HLKo k7 hm7 HLO
   obtain⟨w8,hrun8,k8,cb8,hput⟩:=K0 H2.out HB7.out ha hb HON.out HOFF.out hg HOO.out HRI.out
   have HPUT:=Aa (hput 1)
   have hp0:=HP7.out.get (j:=0) rfl
   have hp1:=HP7.out.get (j:=1) rfl
   have ht0:=HT7.out.get (j:=0) rfl
   have ht1:=HT7.out.get (j:=1) rfl
   have ht2:=HT7.out.get (j:=2) rfl
   have hr0:=HR7.out.get (j:=0) rfl
   have hr1:=HR7.out.get (j:=1) rfl
   have cm7:=((H2.out.later HB7.out).bk.get (j:=2) rfl)
   have hp8:=HP7.out.kept k8 HNR.out.1
   have ht8:=HT7.out.kept k8 HNR.out.2
   have sp0:=hp8.get (j:=0) rfl
   have sp1:=hp8.get (j:=1) rfl
   have st0:=ht8.get (j:=0) rfl
   have st1:=ht8.get (j:=1) rfl
   have st2:=ht8.get (j:=2) rfl
   have HRUN8:=Aa hrun8
   clear hput k8 hp8 ht8 hrun8
   go_upto_region 20 with (fail)
   refine Bi 6 (by kernel_rfl) (by kernel_rfl) ?_
   simp only [List.take_succ_cons,List.take_zero,List.drop_succ_cons,List.drop_zero]
   repeat still_step
   refine wpStill_nil ?_
   go_wp2_with (at_mapUpdate;refine Gx rfl _ _ _ 87 rfl G.mb (Bz a b) _ rfl rfl rfl HRUN8.out ?_)
   clear hp0 hp1 ht0 ht1 ht2 hr0 hr1 cm7 HRUN8
   go_upto_region 21 with (fail)
   refine Bi 6 (by kernel_rfl) (by kernel_rfl) ?_
   simp only [List.take_succ_cons,List.take_zero,List.drop_succ_cons,List.drop_zero]
   repeat still_step
   refine wpStill_nil ?_
   go_wp2_with fail
   refine HPUT.out.mono ?_
   rintro e w9 ⟨rfl,k9,own9,G9,h9,e9,a9⟩
   have HFIN:=Aa (HEND.out w9 own9 G9 h9 e9 a9 k9)
   clear k9 h9 e9 a9 HPUT
   go_wp2
   go_ret
   exact⟨rfl,HFIN.out⟩
end
end Go.Proofs.YtbibeionenjmfaaGreatDoor
namespace Go.Proofs.YtbibeionenjmfaaGreatDoor
open Go.RowKit
section
variable {w0 w w' W:World} {own own':Nat→Eu} {G:Bb} {F F':Ad} {n:Nat} {g:El} {o:Bg}
set_option maxRecDepth 100000 in
set_option maxHeartbeats 4000000 in
theorem Aaj {a b i:Nat} {p:As} (h:Bv w0 w own G F) (hi:Fz F) (ha:a < 4) (hb:b < 3) (hon:∃ t,Aw F a b=some t) (hoff:∀ t,Aw F a b=some t→t.on=false) (hg:G.jg[n]?=some g) (ho:F.Aj[n]?=some o) (hp:o.Cc[i]?=some p) (hst:¬ p.st=2) (hall:Sg o.parts=true):
 Calls Tryz.prog 44 #[.pointer (some ⟨G.fb,0,none⟩), .agg #[.int .i64 a, .int .i64 b], .agg #[.int .i64 n, .bool true, .int .i64 i]] w fun e w'=> e= .returned .nilIface∧B3 w0 w own G (Br F a b (n,true,i)) w':=by
 obtain⟨W,hW⟩:∃ W,W=(w.alloc (.cells #[.int .i64 a, .int .i64 b] 60)).alloc (.cells #[.int .i64 n, .bool true, .int .i64 i] 33):=⟨_,rfl⟩
 have hb0:Below w.heap.size w W:=by rw [hW];exact(ba w _).alloc (by simp) _
 have hpb:Bk W w.heap.size [.int .i64 a, .int .i64 b]:=by rw [hW];exact(Bk.new rfl).alloc _
 have htb:Bk W (w.heap.size+1) [.int .i64 n, .bool true, .int .i64 i]:=by
  rw [hW]
  have:=Bk.new (w:=w.alloc (.cells #[.int .i64 a, .int .i64 b] 60)) (cs:= #[.int .i64 n, .bool true, .int .i64 i]) (t:=33) rfl
  simpa using this
 have hW1:=h.later hb0
 obtain⟨g',gb,cap,hg',ej,cn,hjc,hgb⟩:=hW1.T4 ho
 rw [hg] at hg'
 obtain rfl:=Option.some.inj hg'
 have hnl:=(List.getElem?_eq_some_iff.1 ho).1
 have f1:(n:Int) < (F.Aj.length:Int):=by omega
 have cj:=hW1.bk.get (j:=3) rfl
 rw [ej] at cj
 have t0:=htb.get (j:=0) rfl
 have t1:=htb.get (j:=1) rfl
 have t2:=htb.get (j:=2) rfl
 have x5:=hjc.hd.bk.get (j:=5) rfl
 have HBG:=Aa fun nq=> R4 (fold:=true) (hW1.later (below_drewN (Below.refl _ _) nq)) hg ho hp (by unfold Kk;rw [Jw,←Xo];simp [hst,hall])
 have HW:=Aa hW
 have HH:=Aa h
 have HWS:Hid (w.heap.size+2≤W.heap.size):=by rw [hW];show _≤_;simp
 have HB0:=Aa hb0
 have HPB:=Aa hpb
 have HTB:=Aa htb
 clear hW h hb0 hpb htb hW1 hjc ej hg'
 go_enter Tryz.func44,Tryz.ntmps44
 go_upto_region 1 with (fail)
 rw [←HW.out]
 clear HW
 go_quiet (fail)
 go_upto_region 2 with (fail)
 refine Bi 8 (by kernel_rfl) (by kernel_rfl) ?_
 simp only [List.take_succ_cons,List.take_zero,List.drop_succ_cons,List.drop_zero]
 repeat still_step
 refine wpStill_nil ?_
 go_wp2_with fail
 refine(HBG.out (nq+1)).mono ?_
 rintro e w2 ⟨rfl,k2,h2⟩
 have hk2:Ab (fun q=> own q= .Lz n) W w2:=(Ab.Ag (S:=fun q=> own q= .Lz n) (below_drewN (Below.refl W.heap.size W) (nq+1)) (Nat.le_refl _)).trans k2
 have ho0:own w.heap.size= .out:=HH.out.Dg (Nat.le_refl _)
 have ho1:own (w.heap.size+1)= .out:=HH.out.Dg (by omega)
 have hpb2:=HPB.out.kept hk2 (by rw [ho0];simp)
 have htb2:=HTB.out.kept hk2 (by rw [ho1];simp)
 obtain⟨F2,hF2⟩:∃ F2,F2=setOf F (n,true,i) fun p=> {p with st:=1}:=⟨_,rfl⟩
 have h2':Bv w0 w2 own G F2:=by rw [hF2];exact h2
 obtain⟨o2,ho2⟩:∃ o2,o2=A1 o true i fun p=> {p with st:=1}:=⟨_,rfl⟩
 have hoo:F2.Aj[n]?=some o2:=by
  rw [hF2,ho2]
  show(F.Aj.modify n _)[n]?=_
  rw [Hl _ ho]
  exact List.getElem?_set_self hnl
 have hs2:Ej o o2:=by rw [ho2];exact Ej.A1 o true i _
 have hi2:Fz F2:=by rw [hF2];exact Aes hi _
 have hc2:=h2'.js n g o2 hg hoo
 obtain⟨p2,hp2,hps⟩:∃ p2,(Er o2 true)[i]?=some p2∧p2.saved=p.saved:=by
  refine⟨{p with st:=1},?_,rfl⟩
  rw [ho2,Lc,if_pos ⟨rfl,rfl⟩]
  show(o.Cc[i]?).map _=_
  rw [hp];rfl
 obtain⟨sv,is,hlk1,hlk2,his0,his1⟩:=hc2.Ut hp2
 rw [hps] at his0 his1
 have hil:i < o2.slices:=by
  rw [←(hi2.Hj n o2 hoo).M4]
  exact(List.getElem?_eq_some_iff.1 hp2).1
 have hall2:∀ (j:Nat) p,o2.parts[j]?=some p→p.st=2:=fun j p hj=> by
  have h1:o2.parts=o.parts:=by rw [ho2];rfl
  rw [h1] at hj
  unfold Sg at hall
  rw [List.all_eq_true] at hall
  simpa using hall p (List.mem_of_getElem? hj)
 obtain⟨pa,pc,hpv,hps2,_⟩:=hc2.X5
 obtain⟨W3,hW3⟩:∃ W3,W3=w2.alloc (.cells #[.pointer none, .pointer none] 112):=⟨_,rfl⟩
 have hb3:Below w2.heap.size w2 W3:=by rw [hW3];exact ba w2 _
 have hrb:Bk W3 w2.heap.size [.pointer none, .pointer none]:=by rw [hW3];exact Bk.new rfl
 have h3:=h2'.later hb3
 have hlook:∀ nq,(Instr.lookup 99 (.map (some g.mb)) (.agg #[.int .i64 n, .bool true, .int .i64 i]) true).run Tryz.prog (W3.drewN nq)= .ok (.tuple #[.string sv, .bool is]) (W3.drewN nq):=fun nq=> by
  have h4:=((h3.later (below_drewN (Below.refl _ _) nq)).js n g o2 hg hoo).Ws true i (by have:=hi.jl;omega) (by have:=(hi2.Hj n o2 hoo).Aeg;omega)
  rw [hlk1,hlk2] at h4
  exact h4
 have x8:=cell_later hb3 (hc2.hd.bk.get (j:=8) rfl)
 have t0:=cell_later hb3 (htb2.get (j:=0) rfl)
 have t1:=cell_later hb3 (htb2.get (j:=1) rfl)
 have t2:=cell_later hb3 (htb2.get (j:=2) rfl)
 have x1:=cell_later hb3 (hc2.hd.bk.get (j:=1) rfl)
 have x2:=cell_later hb3 (hc2.hd.bk.get (j:=2) rfl)
 have x3:=cell_later hb3 (hc2.hd.bk.get (j:=3) rfl)
 have x4:=cell_later hb3 (hc2.hd.bk.get (j:=4) rfl)
 have x6:=cell_later hb3 (hc2.hd.bk.get (j:=6) rfl)
 rw [hpv] at x6
 have HK2:=Aa hk2
 have HF2:=Aa hF2
 have H2:=Aa h2'
 have H3:=Aa h3
 have HW3:=Aa hW3
 have HB3:=Aa hb3
 have HRB:=Aa hrb
 have HPB2:=Aa (hpb2.later hb3)
 have HTB4:=Aa (htb2.later hb3)
 have HI2:=Aa hi2
 have HOO:=Aa hoo
 have HIS:=Aa (And.intro his0 his1)
 have HALL:=Aa hall2
 have HPV:=Aa hpv
 have HIL:=Aa hil
 have HP2:=Aa hp2
 have HPS:=Aa hps
 clear hk2 hF2 h2 h2' h3 hW3 hb3 hrb hpb2 htb2 hi2 hoo his0 his1 hlk1 hlk2 hp2 hps hps2 hc2 hpv k2 ho2 x5 cn cj f1 hgb HBG HPB HTB hs2 ho0 ho1 hall2 hil
 go_upto_region 6 with (fail)
 rw [←HW3.out]
 clear HW3
 go_quiet (fail)
 have b4:Below W3.heap.size W3 (W3.drewN nq):=below_drewN (Below.refl _ _) nq
 generalize W3.drewN nq=W4 at *
 replace t2:=cell_later b4 t2
 replace t0:=cell_later b4 t0
 replace t1:=cell_later b4 t1
 replace x2:=cell_later b4 x2
 replace x6:=cell_later b4 x6
 replace HRB:=Aa (HRB.out.later b4)
 replace HPB2:=Aa (HPB2.out.later b4)
 replace HTB4:=Aa (HTB4.out.later b4)
 replace HB3:=Aa (HB3.out.trans (b4.mono HB3.out.size))
 replace H3:=Aa (H3.out.later b4)
 clear b4 hlook x8 x1 x3 x4
 have HLK:Hid (w2.heap.size < W4.heap.size):=HRB.out.lt
 have hf2:=HI2.out.Hj n o2 HOO.out
 have HNP:=Aa hf2.Aaq
 have HP60:=Aa hf2.Ln
 have HC4:=Aa (H3.out.js n g o2 hg HOO.out)
 have hnp60:=hf2.Ln
 clear hf2
 obtain⟨i0,hi0,hz0,hz1,hz2⟩:=info_parts Yy
 go_wp2
 go_loopw [12,51] (fun lv iv wr=> ∃ (k:Nat) (rs:List Qh),k≤o2.parts.length∧iv= .int .i64 k∧Hid (rs.length=k∧Cv rs=(given o2.rs o2.fold o2.early o2.slices (chunks o2) i).take k)∧Hid (Own 1 J6 157 wr W4.heap.size lv rs)∧Hid (∀ r∈rs,Sl 2 Bq W4 r.1 r.2.2)∧Hid (Below W4.heap.size W4 wr)) (fun _ iv _=> o2.parts.length - (intOf iv).toNat)
 case atStart=> exact⟨0, [],by omega,by go_num,⟨rfl,rfl⟩,(Own.nil:Own 1 J6 157 W4 W4.heap.size (.slice none 0 0) []),(fun r hr=> by cases hr),Below.refl _ _⟩
 case round=>
  obtain⟨k,rs,hk,rfl,HRS,HOW,HROW,HBE⟩:=hrel
  by_cases hlt:k < o2.parts.length
  ·obtain⟨pk,hpk⟩:∃ pk,o2.parts[k]?=some pk:=⟨_,List.getElem?_eq_getElem hlt⟩
   obtain⟨lv0,ob,ra,rcap,rl,hpl,crow,hsr,hgv,_,_⟩:=HC4.out.rowAt hpk (HALL.out k pk hpk) HIL.out HNP.out
   obtain⟨pa',pc',e',hps',_⟩:=HC4.out.X5
   rw [HPV.out] at e'
   injection e' with a1 a2 a3
   subst a1
   obtain⟨pb,poff,lv,ov,rfl,_,hplk,y0,y1⟩:=hps'.part (k:=k) (by rw [HC4.out.pt.pn];exact hlt)
   rw [hpl] at hplk
   injection hplk with hplk
   injection hplk with a4 a5
   subst a4 a5
   obtain⟨la,lc,rfl,_⟩:=HC4.out.pt.li k lv0 _ hpl
   have c1:=cell_later HBE.out y0
   have c2:=cell_later HBE.out y1
   have c3:=cell_later HBE.out crow
   have c4:=cell_later HBE.out t2
   have f1:(k:Int) < (o2.parts.length:Int):=by omega
   have f2:(i:Int) < (o2.slices:Int):=by have:=HIL.out;omega
   have hrl:=HRS.out.1
   have HLE:Hid (rs.length+1≤1000000000):=by show _≤_;omega
   have HSU:Hid ((rs++ [(ra,rcap,rl)]).length=k+1∧Cv (rs++ [(ra,rcap,rl)])=(given o2.rs o2.fold o2.early o2.slices (chunks o2) i).take (k+1)):=by
    refine⟨by rw [List.length_append,hrl];rfl,?_⟩
    have h1:=HRS.out.2
    unfold Cv at h1 ⊢
    obtain⟨hl,hx⟩:=List.getElem?_eq_some_iff.1 hgv
    rw [List.map_append,h1,List.take_succ_eq_append_getElem hl,hx];rfl
   have HRN:Hid (∀ r∈rs++ [(ra,rcap,rl)],Sl 2 Bq W4 r.1 r.2.2):=fun r hr=> by
    rcases List.mem_append.1 hr with h1 | h1
    ·exact HROW.out r h1
    ·rw [List.mem_singleton.1 h1];exact hsr
   obtain⟨ua,uc,rfl⟩:=id HOW.out.1
   have HOA:=Aa ((HOW.out.alloc (.cells #[.slice la (Ao o2 k).length lc, .slice (some ⟨ob,0,none⟩) o2.slices o2.slices] 133)).alloc (.cells #[.slice ra rl.length rcap] 157))
   have HBA:=Aa ((HBE.out.alloc HBE.out.size (.cells #[.slice la (Ao o2 k).length lc, .slice (some ⟨ob,0,none⟩) o2.slices o2.slices] 133)).alloc (by have:=HBE.out.size;simp;omega) (.cells #[.slice ra rl.length rcap] 157))
   have HSZ:Hid (W4.heap.size≤((wr.alloc (.cells #[.slice la (Ao o2 k).length lc, .slice (some ⟨ob,0,none⟩) o2.slices o2.slices] 133)).alloc (.cells #[.slice ra rl.length rcap] 157)).heap.size):=HBA.out.size
   clear hpk hpl crow hsr hgv hps' y0 y1 a2 a3 HRS HROW hrl
   have hba:=ba wr (.cells #[.slice la (Ao o2 k).length lc, .slice (some ⟨ob,0,none⟩) o2.slices o2.slices] 133)
   have c3':=cell_later hba c3
   have c4':=cell_later hba c4
   clear hba
   go_upto_region 12 with (fail)
   go_wp2_with (at_builtin;refine Bc Uc _ _ 131 i0 _ rfl rfl Tryz.underlying131 hi0 hz0 hz1 hz2 rfl (by decide) (by decide) HOA.out HBA.out HSZ.out HLE.out rfl (ra,rcap,rl) ⟨wr.heap.size+1,0,none⟩ 1 rfl (Fb (by simp) rfl) (by intro u hu;simp [J6] at hu;subst hu;rfl) ?_)
   intro v' w7 ho hb _ _
   have HO:=Aa ho
   have HBN:=Aa hb
   clear ho hb HOW HBE HOA HBA c1 c2 c3 c4
   go_wp2
   go_roundw
   case rel=> exact⟨k+1,rs++ [(ra,rcap,rl)],by omega,by go_num,HSU,HO,HRN,HBN⟩
   case measure=> (simp [intOf];try omega)
  ·obtain rfl:k=o2.parts.length:=by omega
   have HEND:Hid (∀ (w9:World) (own9:Nat→Eu) (G9:Bb),Bv w0 w9 own9 G9 (Aq F2 a b ⟨true,(n,true,i),p.saved.toNat⟩)→G9.fb=G.fb→(∀ q,q < w2.heap.size→own9 q=own q)→Ab (fun q=> own q≠ .out) w2 w9→B3 w0 w own G (Br F a b (n,true,i)) w9):=fun w9 own9 G9 h9 e9 a9 k9=> by
    have hbm:Br F a b (n,true,i)=Aq F2 a b ⟨true,(n,true,i),p.saved.toNat⟩:=by
     unfold Br
     rw [←HF2.out]
     have:ofM F (n,true,i)=some p:=by unfold ofM;rw [ho];exact hp
     rw [this];rfl
    rw [hbm]
    have hw2:w.heap.size≤w2.heap.size:=Nat.le_trans HB0.out.size HK2.out.size
    refine⟨⟨own9,G9,h9,e9,fun q hq=> a9 q (by omega)⟩,?_⟩
    exact((Ab.Ag (S:=fun q=> own q≠ .out) HB0.out (Nat.le_refl _)).trans (HK2.out.mono fun q hq=> by rw [hq];simp)).trans k9
   have HNR:Hid (¬ own w.heap.size= .runs∧¬ own (w.heap.size+1)= .runs):=by
    rw [HH.out.Dg (Nat.le_refl _),HH.out.Dg (Nat.le_succ _)]
    exact⟨by simp,by simp⟩
   have HON:Hid (∃ x,Aw F2 a b=some x):=by rw [HF2.out];exact hon
   have HOFF:Hid (∀ x,Aw F2 a b=some x→x.on=false):=by rw [HF2.out];exact hoff
   have hrs:=HRS.out
   obtain⟨hrl,hrw⟩:=hrs
   rw [List.take_of_length_le (by unfold given chunks;rw [List.length_map,List.length_map,List.length_range,←HNP.out];exact Nat.le_refl _)] at hrw
   obtain⟨ua,uc,rfl⟩:=id HOW.out.1
   have H5:=Aa (H3.out.later HBE.out)
   have HFN:=Aa (Ag4 (cap:=uc) H5.out HI2.out HOO.out hrw hrl (HOW.out.sl Uc) (fun r hr=> (HROW.out r hr).later HBE.out (Nat.le_refl _)))
   have c2:=cell_later HBE.out x2
   have HRB5:=Aa (HRB.out.later HBE.out)
   have HP5:=Aa (HPB2.out.later HBE.out)
   have HT5:=Aa (HTB4.out.later HBE.out)
   have HB5:=Aa (HB3.out.trans (HBE.out.mono HB3.out.size))
   have HLK5:Hid (w2.heap.size < wr.heap.size):=HRB5.out.lt
   have HNB:Hid (g.nb≤wr.heap.size∧w0.heap.size≤wr.heap.size):=⟨(H5.out.js n g o2 hg HOO.out).hd.nb,H5.out.Gj.size⟩
   clear HRS HOW HROW hrw hrl t0 t1 t2 x2 x6 hi0 hz0 hz1 hz2 HALL HPV HC4 HNP HP60 hnp60
   go_upto_region 14 with (fail)
   go_wp2_with fail
   refine HFN.out.mono ?_
   rintro e w5 ⟨⟨gm,rfl,hr5⟩,b5⟩
   have hrb5:=HRB5.out.later b5
   have s1:=hrb5.get (j:=1) rfl
   have z1:=hrb5.fz 1
   obtain⟨W6,hW6⟩:∃ W6,W6=w5.setCell ⟨w2.heap.size,1,none⟩ (.pointer (some ⟨gm,0,none⟩)):=⟨_,rfl⟩
   have k6:Ab (fun q=> q=w2.heap.size) w5 W6:=by rw [hW6];exact(Ab.refl (fun q=> q=w2.heap.size) w5).setCell (p:=⟨w2.heap.size,1,none⟩) rfl _
   have hb6:Below w2.heap.size w2 W6:=by
    rw [hW6]
    exact(HB5.out.trans (b5.mono HB5.out.size)).setCell (p:=⟨w2.heap.size,1,none⟩) (Nat.le_refl _) _
   have hlw:w.heap.size+1 < w2.heap.size:=by
    have h2:w.heap.size+2≤W.heap.size:=HWS.out
    have h3:=HK2.out.size
    omega
   have hrb6:Bk W6 w2.heap.size [.pointer none, .pointer (some ⟨gm,0,none⟩)]:=by rw [hW6];exact hrb5.set (k:=1) (u:= .pointer none) _ rfl
   have hp6:=(HP5.out.later b5).kept k6 (by omega)
   have ht6:=(HT5.out.later b5).kept k6 (by omega)
   have hS6:∀ q,(wr.heap.size≤q∧q < w5.heap.size)→w2.heap.size≤q∧q < W6.heap.size:=fun q hq=> by
    have h2:=HLK5.out
    have h3:=k6.size
    omega
   have hm6:=hr5.Z8 k6 (fun q hq e=> by have h1:=hq.1;have h3:=HLK5.out;omega) (fun q hq e=> by have h1:=hq.1;have h3:=HLK5.out;omega)
   have hB6:w0.heap.size≤wr.heap.size∧wr.heap.size≤W6.heap.size:=⟨HNB.out.2,Nat.le_trans b5.size k6.size⟩
   have HCONT:Hid (∀ q,wr.heap.size≤q∧q < w5.heap.size→q < W6.heap.size):=fun q hq=> (hS6 q hq).2
   have hr61:=hrb6.get (j:=1) rfl
   have HB6:=Aa hb6
   have HR6:=Aa hrb6
   have HP6:=Aa hp6
   have HT6:=Aa ht6
   have HM6:=Aa hm6
   have HBB:=Aa hB6
   have HS6:=Aa hS6
   clear k6 hb6 hrb6 hp6 ht6 hm6 hB6 hS6 hr5 b5 hrb5 HFN c2 HP5 HT5 HRB5 HB5 HPB2 HTB4 HRB HB3 H3 H5 HNB
   go_upto_region 15 with (fail)
   rw [←hW6]
   clear hW6 s1 z1
   cases is with
   | false=>
     have hc0:p.saved.toNat=0:=by have:=HIS.out.1 rfl;omega
     rw [hc0] at HEND
     have HRI:Hid (Bx w0 W6 (Dk own w2.heap.size W6.heap.size (.run a b)) a b g o2 (n,true,i) 0 (.agg #[.pointer none, .pointer (some ⟨gm,0,none⟩)])):=Bx.ofF HM6.out HBB.out HS6.out HS6.out
     have HB7:=HB6
     have HR7:=HR6
     have HP7:=HP6
     have HT7:=HT6
     clear HB6 HR6 HP6 HT6 HM6 HBB HS6 hr61 HIS HLK hc0 HCONT
     obtain⟨w8,hrun8,k8,cb8,hput⟩:=K0 H2.out HB7.out ha hb HON.out HOFF.out hg HOO.out HRI.out
     have HPUT:=Aa (hput 1)
     have hp0:=HP7.out.get (j:=0) rfl
     have hp1:=HP7.out.get (j:=1) rfl
     have ht0:=HT7.out.get (j:=0) rfl
     have ht1:=HT7.out.get (j:=1) rfl
     have ht2:=HT7.out.get (j:=2) rfl
     have hr0:=HR7.out.get (j:=0) rfl
     have hr1:=HR7.out.get (j:=1) rfl
     have cm7:=((H2.out.later HB7.out).bk.get (j:=2) rfl)
     have hp8:=HP7.out.kept k8 HNR.out.1
     have ht8:=HT7.out.kept k8 HNR.out.2
     have sp0:=hp8.get (j:=0) rfl
     have sp1:=hp8.get (j:=1) rfl
     have st0:=ht8.get (j:=0) rfl
     have st1:=ht8.get (j:=1) rfl
     have st2:=ht8.get (j:=2) rfl
     have HRUN8:=Aa hrun8
     clear hput k8 hp8 ht8 hrun8
     go_upto_region 20 with (fail)
     refine Bi 6 (by kernel_rfl) (by kernel_rfl) ?_
     simp only [List.take_succ_cons,List.take_zero,List.drop_succ_cons,List.drop_zero]
     repeat still_step
     refine wpStill_nil ?_
     go_wp2_with (at_mapUpdate;refine Gx rfl _ _ _ 87 rfl G.mb (Bz a b) _ rfl rfl rfl HRUN8.out ?_)
     clear hp0 hp1 ht0 ht1 ht2 hr0 hr1 cm7 HRUN8
     go_upto_region 21 with (fail)
     refine Bi 6 (by kernel_rfl) (by kernel_rfl) ?_
     simp only [List.take_succ_cons,List.take_zero,List.drop_succ_cons,List.drop_zero]
     repeat still_step
     refine wpStill_nil ?_
     go_wp2_with fail
     refine HPUT.out.mono ?_
     rintro e w9 ⟨rfl,k9,own9,G9,h9,e9,a9⟩
     have HFIN:=Aa (HEND.out w9 own9 G9 h9 e9 a9 k9)
     clear k9 h9 e9 a9 HPUT
     go_wp2
     go_ret
     exact⟨rfl,HFIN.out⟩
   | true=>
     obtain⟨hs0,hss⟩:=HIS.out.2 rfl
     unfold Oh at hss
     rw [if_pos rfl] at hss
     obtain⟨sm,hst1,hst2,hsv⟩:=hss
     subst hsv
     have hcle:p.saved.toNat≤(Ae o2.fold (B8 o2 i)).length:=by
      have hpk:=HI2.out.part n o2 true i _ HOO.out HP2.out
      have h1:=hpk.saved.2
      have h2:=hpk.many
      unfold G7 at h2
      rw [if_pos rfl] at h2
      rw [HPS.out] at h1
      rw [(HI2.out.Hj n o2 HOO.out).Ld HIL.out]
      omega
     have HLO:=Aa (Ac0 (H2.out.later HB6.out) HI2.out HOO.out HM6.out HBB.out.2 HCONT.out hst1 hst2 hcle)
     generalize tx (F8 sm ((Ae o2.fold (B8 o2 i)).take p.saved.toNat))=sv at *
     clear hst1 hst2 hcle hs0
     go_wp2_with fail
     refine HLO.out.mono ?_
     rintro e W7 ⟨⟨rfl,hm7⟩,k7⟩
     have hb7:Below w2.heap.size w2 W7:=HB6.out.trans (k7.below (fun q hq=> (HS6.out q hq).1) HB6.out.size)
     have HLKo:=HLK5.out
     have HRI:Hid (Bx w0 W7 (Dk own w2.heap.size W7.heap.size (.run a b)) a b g o2 (n,true,i) p.saved.toNat (.agg #[.pointer none, .pointer (some ⟨gm,0,none⟩)])):=by
      refine Bx.ofF hm7 ⟨HBB.out.1,Nat.le_trans HBB.out.2 k7.size⟩ (fun q hq=> ?_) fun q hq=> ⟨(HS6.out q hq).1,Nat.lt_of_lt_of_le (HS6.out q hq).2 k7.size⟩
      rcases hq with h1 | h1
      ·exact⟨(HS6.out q h1).1,Nat.lt_of_lt_of_le (HS6.out q h1).2 k7.size⟩
      ·exact⟨Nat.le_trans HB6.out.size h1.1,h1.2⟩
     have HR7:=Aa (HR6.out.kept k7 fun e=> by have:=e.1;omega)
     have HP7:=Aa (HP6.out.kept k7 fun e=> by have:=e.1;omega)
     have HT7:=Aa (HT6.out.kept k7 fun e=> by have:=e.1;omega)
     have HB7:=Aa hb7
     clear HB6 HR6 HP6 HT6 HM6 HBB HS6 hr61 HIS HLK hb7 HLKo k7 hm7 HLO HCONT HLK5
     obtain⟨w8,hrun8,k8,cb8,hput⟩:=K0 H2.out HB7.out ha hb HON.out HOFF.out hg HOO.out HRI.out
     have HPUT:=Aa (hput 1)
     have hp0:=HP7.out.get (j:=0) rfl
     have hp1:=HP7.out.get (j:=1) rfl
     have ht0:=HT7.out.get (j:=0) rfl
     have ht1:=HT7.out.get (j:=1) rfl
     have ht2:=HT7.out.get (j:=2) rfl
     have hr0:=HR7.out.get (j:=0) rfl
     have hr1:=HR7.out.get (j:=1) rfl
     have cm7:=((H2.out.later HB7.out).bk.get (j:=2) rfl)
     have hp8:=HP7.out.kept k8 HNR.out.1
     have ht8:=HT7.out.kept k8 HNR.out.2
     have sp0:=hp8.get (j:=0) rfl
     have sp1:=hp8.get (j:=1) rfl
     have st0:=ht8.get (j:=0) rfl
     have st1:=ht8.get (j:=1) rfl
     have st2:=ht8.get (j:=2) rfl
     have HRUN8:=Aa hrun8
     clear hput k8 hp8 ht8 hrun8
     go_upto_region 20 with (fail)
     refine Bi 6 (by kernel_rfl) (by kernel_rfl) ?_
     simp only [List.take_succ_cons,List.take_zero,List.drop_succ_cons,List.drop_zero]
     repeat still_step
     refine wpStill_nil ?_
     go_wp2_with (at_mapUpdate;refine Gx rfl _ _ _ 87 rfl G.mb (Bz a b) _ rfl rfl rfl HRUN8.out ?_)
     clear hp0 hp1 ht0 ht1 ht2 hr0 hr1 cm7 HRUN8
     go_upto_region 21 with (fail)
     refine Bi 6 (by kernel_rfl) (by kernel_rfl) ?_
     simp only [List.take_succ_cons,List.take_zero,List.drop_succ_cons,List.drop_zero]
     repeat still_step
     refine wpStill_nil ?_
     go_wp2_with fail
     refine HPUT.out.mono ?_
     rintro e w9 ⟨rfl,k9,own9,G9,h9,e9,a9⟩
     have HFIN:=Aa (HEND.out w9 own9 G9 h9 e9 a9 k9)
     clear k9 h9 e9 a9 HPUT
     go_wp2
     go_ret
     exact⟨rfl,HFIN.out⟩
end
end Go.Proofs.YtbibeionenjmfaaGreatDoor
namespace Go.Proofs.YtbibeionenjmfaaGreatDoor
open Go.RowKit
section
variable {w0 w w' W:World} {own own':Nat→Eu} {G:Bb} {F F':Ad}
theorem B3.same (h:Bv w0 w own G F) (hb:Below w.heap.size w w'):B3 w0 w own G F w':=
 ⟨⟨own,G,h.later hb,rfl,fun _ _=> rfl⟩,Ab.Ag hb (Nat.le_refl _)⟩
theorem B3.store {Wc w5 w6:World} {T:Nat→Prop} (h:B3 w0 Wc own G F' w5) (hb:Below w.heap.size w Wc) (hw:Bv w0 w own G F) (k:Ab T w5 w6) (hT:∀ q,T q→w.heap.size≤q∧q < Wc.heap.size):B3 w0 w own G F' w6:=by
 obtain⟨⟨own',G',hf,e,ha⟩,k5⟩:=h
 refine⟨⟨own',G',hf.Acp k fun q hq=> ⟨?_,?_⟩,e,fun q hq=> ha q (Nat.lt_of_lt_of_le hq hb.size)⟩,?_⟩
 ·rw [ha q (hT q hq).2];exact hw.Dg (hT q hq).1
 ·exact Nat.le_trans hw.Gj.size (hT q hq).1
 ·exact(((Ab.Ag (S:=fun q=> own q≠ .out) hb (Nat.le_refl _)).trans k5).new k fun q hq=> (hT q hq).1)
theorem Bv.room (h:Bv w0 w own G F) {wk:Int} (hr:(Ei F wk).2=0):wk.toNat < 4∧(Ei F wk).1 < 3∧wk=(wk.toNat:Int)∧∃ t,Aw F wk.toNat (Ei F wk).1=some t∧t.on=false:=by
 obtain⟨h0,t,ht,hoff⟩:=Abe hr
 obtain⟨row,h1,h2⟩:=Kv ht
 have h3:=(List.getElem?_eq_some_iff.1 h1).1
 have h4:=(List.getElem?_eq_some_iff.1 h2).1
 rw [h.Vx h1] at h4
 have h5:=h.bt.lr
 have h6:=h.bt.ln
 have h7:=h.rows
 have h8:0≤wk:=by
  unfold Ei at hr
  split at hr
  ·cases hr
  ·omega
 exact⟨by omega,by omega,by omega,t,ht,hoff⟩
theorem Ab8 {a b:Nat} {t:Eg} {p:As} (h:Bv w0 w own G F) (hi:Fz F) (ha:a < 4) (hb:b < 3) {x:F3} (hx:Aw F a b=some x) (hoff:x.on=false) (hp:ofM F t=some p) (hst:¬ p.st=2) (hall:t.2.1=true→∀ o,F.Aj[t.1]?=some o→Sg o.parts=true):
 Calls Tryz.prog 44 #[.pointer (some ⟨G.fb,0,none⟩), .agg #[.int .i64 a, .int .i64 b],Cu t] w fun e w'=> e= .returned .nilIface∧B3 w0 w own G (Br F a b t) w':=by
 obtain⟨o,ho,hpl⟩:=Iy hp
 obtain⟨g,_,_,hg,_⟩:=h.T4 ho
 obtain⟨n,fo,i⟩:=t
 cases fo
 ·exact Abf h hi ha hb ⟨x,hx⟩ (fun y hy=> by rw [hx] at hy;cases hy;exact hoff) hg ho hpl hst
 ·exact Aaj h hi ha hb ⟨x,hx⟩ (fun y hy=> by rw [hx] at hy;cases hy;exact hoff) hg ho hpl hst (hall rfl o ho)
set_option maxRecDepth 100000 in
set_option maxHeartbeats 4000000 in
theorem Oe (wk:Int) (h:Bv w0 w own G F) (hi:Fz F):Calls Tryz.prog 17 #[.pointer (some ⟨G.fb,0,none⟩), .int .i64 wk] w fun e w'=> e= .returned (.tuple #[Cu (E5 F wk).1.1,Ed (E5 F wk).1.2])∧B3 w0 w own G (E5 F wk).2 w':=by
 obtain⟨W,hW⟩:∃ W,W=w.alloc (.cells #[.int .i64 0, .bool false, .int .i64 0] 33):=⟨_,rfl⟩
 have hb:Below w.heap.size w W:=by rw [hW];exact ba w _
 have ht:Bk W w.heap.size [.int .i64 0, .bool false, .int .i64 0]:=by rw [hW];exact Bk.new rfl
 have HH:=Aa h
 have HRO:=Aa (Agh wk (h.later hb))
 have HNX:=Aa fun w' (k:Below w.heap.size w w')=> Ahg (h.later k) hi
 have HBEG:=Aa fun w' (k:Below w.heap.size w w') (a b:Nat) (t:Eg) (p:As) ha hb' x hx hoff hp hst hall=> Ab8 (a:=a) (b:=b) (t:=t) (p:=p) (x:=x) (h.later k) hi ha hb' hx hoff hp hst hall
 have c1:=cell_later hb (h.bk.get (j:=1) rfl)
 have HROOM:=Aa fun hr=> h.room (wk:=wk) hr
 have HW:=Aa hW
 have HB:=Aa hb
 have HT:=Aa ht
 have HWL:Hid (w.heap.size < W.heap.size):=by rw [hW];show _ < _;simp
 clear h hW hb ht
 by_cases hr:(Ei F wk).2=0
 ·obtain⟨ha,hb,hwk,x,hx,hoff⟩:=HROOM.out hr
  have hrw:Tz F wk= .agg #[.int .i64 (wk.toNat:Int), .int .i64 (Ei F wk).1]:=by unfold Tz;rw [if_pos hr,←hwk]
  rw [hrw,hr,A2] at HRO
  have HOF:Hid (E5 F wk=match Ig F with
   | none=> ((F4,5),F)
   | some t=> ((t,0),Br F wk.toNat (Ei F wk).1 t)):=by show _=_;unfold E5;dsimp only;rw [if_neg (by rw [hr];simp)];cases Ig F <;> rfl
  replace HBEG:=Aa fun w' k t p=> HBEG.out w' k wk.toNat (Ei F wk).1 t p ha hb x hx hoff
  have HNM:=Aa fun t (ht:Ig F=some t)=> Aax ht
  clear hrw HROOM hx hoff ha hb hr
  generalize (Ei F wk).1=rk at *
  generalize wk.toNat=wn at *
  subst hwk
  go_enter Tryz.func17,Tryz.ntmps17
  go_upto_region 1 with (fail)
  rw [←HW.out]
  clear HW
  go_wp2_with fail
  refine HRO.out.mono ?_
  rintro e w1 ⟨rfl,b1⟩
  have HB1:=Aa (HB.out.trans (b1.mono HB.out.size))
  obtain⟨W1,hW1⟩:∃ W1,W1=w1.alloc (.cells #[.int .i64 wn, .int .i64 rk] 60):=⟨_,rfl⟩
  have b2:Below w1.heap.size w1 W1:=by rw [hW1];exact ba w1 _
  have hp1:Bk W1 w1.heap.size [.int .i64 wn, .int .i64 rk]:=by rw [hW1];exact Bk.new rfl
  replace HT:=Aa ((HT.out.later b1).later b2)
  have HP:=Aa hp1
  have HW1:=Aa hW1
  have HWL1:=Aa (Nat.lt_of_lt_of_le HWL.out b1.size)
  have HW1S:Hid (w.heap.size≤w1.heap.size):=HB1.out.size
  have HWL2:Hid (w1.heap.size < W1.heap.size):=hp1.lt
  replace HB:=Aa (HB1.out.trans (b2.mono HB1.out.size))
  have HN1:=Aa (HNX.out W1 HB.out)
  clear b1 b2 hp1 hW1 HRO c1 HB1 HWL HNX
  go_upto_region 4 with (fail)
  rw [←HW1.out]
  go_wp2_with fail
  refine HN1.out.mono ?_
  rintro e w2 ⟨rfl,b2⟩
  have HB2S:Hid (W1.heap.size≤w2.heap.size):=b2.size
  clear HN1
  obtain⟨nm,hnm⟩:∃ nm,nm=Ig F:=⟨_,rfl⟩
  rw [←hnm] at HOF ⊢
  have HNMQ:=Aa hnm
  clear hnm
  cases nm with
  | none=>
    obtain⟨W2,hW2⟩:∃ W2,W2=w2.alloc (.cells #[.int .i64 0, .bool false, .int .i64 0] 33):=⟨_,rfl⟩
    have b3:Below w2.heap.size w2 W2:=by rw [hW2];exact ba w2 _
    replace HB:=Aa (HB.out.trans (b2.mono HB.out.size))
    replace HT:=Aa ((HT.out.later b2).later b3)
    have HB9:=Aa (Hz (.int .i64 0) (.bool false) (.int .i64 0) (HB.out.trans (b3.mono HB.out.size)) (Nat.le_refl w.heap.size))
    have HW2:=Aa hW2
    have e9:Rm none= .agg #[.int .i64 0, .bool false, .int .i64 0]:=rfl
    have e8:(none:Option Eg).isSome=false:=rfl
    rw [e9,e8]
    clear b2 b3 hW2 HBEG HNM HNMQ HP HW1 HWL1 HWL2 e9 e8
    go_upto_region 5 with (fail)
    rw [←HW2.out]
    have hk9:=HT.out.s3 (.int .i64 0) (.bool false) (.int .i64 0)
    have c0:=HT.out.get (j:=0) rfl
    have c1:=HT.out.get (j:=1) rfl
    have c2:=HT.out.get (j:=2) rfl
    have z0:=HT.out.fz 0
    have z1:=HT.out.fz 1
    have z2:=HT.out.fz 2
    have f0:=hk9.get (j:=0) rfl
    have f1:=hk9.get (j:=1) rfl
    have f2:=hk9.get (j:=2) rfl
    have y0:=hk9.fz 0
    have y1:=hk9.fz 1
    have y2:=hk9.fz 2
    clear hk9
    go_wp2
    refine bodyPost_ret (v:= .tuple #[.agg #[.int .i64 0, .bool false, .int .i64 0], .iface 91 (.int .i64 5)]) (by simp [results,Tryz.results17,go_sem,f0,f1,f2,y0,y1,y2]) rfl ?_
    rw [HOF.out]
    exact⟨rfl,B3.same HH.out HB9.out⟩
  | some t=>
    obtain⟨o,ho,hnj,_⟩:=HNM.out t HNMQ.out.symm
    obtain⟨p,hp,hp0⟩:=S5 ho hnj
    have hall:=(Y2 hnj).2
    obtain⟨tn,tf,ti⟩:=t
    obtain⟨W2,hW2⟩:∃ W2,W2=w2.alloc (.cells #[.int .i64 tn, .bool tf, .int .i64 ti] 33):=⟨_,rfl⟩
    have b3:Below w2.heap.size w2 W2:=by rw [hW2];exact ba w2 _
    have ht2:Bk W2 w2.heap.size [.int .i64 tn, .bool tf, .int .i64 ti]:=by rw [hW2];exact Bk.new rfl
    replace HB:=Aa (HB.out.trans (b2.mono HB.out.size))
    replace HB:=Aa (HB.out.trans (b3.mono HB.out.size))
    replace HT:=Aa ((HT.out.later b2).later b3)
    replace HP:=Aa ((HP.out.later b2).later b3)
    have HT2:=Aa ht2
    have HW2S:Hid (w.heap.size≤w1.heap.size∧w.heap.size≤w2.heap.size):=⟨HW1S.out,Nat.le_trans HW1S.out (Nat.le_trans (Nat.le_of_lt HWL2.out) HB2S.out)⟩
    have HW2:=Aa hW2
    have hls:w.heap.size < W2.heap.size∧w1.heap.size < W2.heap.size∧w2.heap.size < W2.heap.size:=⟨HT.out.lt,HP.out.lt,HT2.out.lt⟩
    have HLS:=Aa hls
    have HBG:=Aa (HBEG.out (W2.drewN 1) (HB.out.trans ((below_drewN (Below.refl W2.heap.size W2) 1).mono HB.out.size)) (tn,tf,ti) p hp (by omega) (fun hf o' ho'=> by rw [ho] at ho';cases ho';exact hall hf))
    have e9:Rm (some (tn,tf,ti))= .agg #[.int .i64 tn, .bool tf, .int .i64 ti]:=rfl
    have e8:(some (tn,tf,ti)).isSome=true:=rfl
    rw [e9,e8]
    clear b2 b3 hW2 HBEG HNM HNMQ HW1 e9 e8 ho hnj hp hp0 hall ht2 hls HWL1 HWL2
    go_upto_region 5 with (fail)
    rw [←HW2.out]
    clear HW2
    have q0:=HT2.out.get (j:=0) rfl
    have q1:=HT2.out.get (j:=1) rfl
    have q2:=HT2.out.get (j:=2) rfl
    have p0:=HP.out.get (j:=0) rfl
    have p1:=HP.out.get (j:=1) rfl
    have ho2:own w2.heap.size= .out:=HH.out.Dg (by have h1:=HLS.out;have h2:=HW2S.out;omega)
    have ho0:own w.heap.size= .out:=HH.out.Dg (Nat.le_refl _)
    have ho1:own w1.heap.size= .out:=HH.out.Dg (by have h2:=HW2S.out;omega)
    have HFB:=Aa HB.out
    go_upto_region 7 with (fail)
    refine wp_region_noPanic ?_
    refine Ah (S:=(fun w'=> Ab (fun q=> own q≠ .out) W2 w')) (E:= [5,6]) (by kernel_rfl) ?_ (fun hHeld=> ?_)
    ·(first | exact(Ab.refl _ _).drew | exact hHeld.trans b5.2 | exact hHeld)
    try dsimp only [List.size_toArray,List.length_cons,List.length_nil,Nat.reduceAdd]
    refine hT 0 [[0], [0]] (v:=?_) rfl (by kernel_rfl) (by rfl) (by assumption) ?_ ?_
    rotate_left
    focus (intro w hSw;(try dsimp only at hSw);(have r0:=hSw.cell q0 (fun e=> e ho2);have r1:=hSw.cell q1 (fun e=> e ho2);have r2:=hSw.cell q2 (fun e=> e ho2);have s0:=hSw.cell p0 (fun e=> e ho1);have s1:=hSw.cell p1 (fun e=> e ho1));go_simp;try with_reducible rfl)
    refine hP 1 (v:=?_) rfl (by kernel_rfl) (by rfl) ?_ ?_
    rotate_left
    focus (intro w;go_simp;try with_reducible rfl)
    refine hT 2 [[4,2], [2]] (v:=?_) rfl (by kernel_rfl) (by rfl) (by assumption) ?_ ?_
    rotate_left
    focus (intro w hSw;(try dsimp only at hSw);(have r0:=hSw.cell q0 (fun e=> e ho2);have r1:=hSw.cell q1 (fun e=> e ho2);have r2:=hSw.cell q2 (fun e=> e ho2);have s0:=hSw.cell p0 (fun e=> e ho1);have s1:=hSw.cell p1 (fun e=> e ho1));go_simp;try with_reducible rfl)
    refine hT 3 [[4,3], [3]] (v:=?_) rfl (by kernel_rfl) (by rfl) (by assumption) ?_ ?_
    rotate_left
    focus (intro w hSw;(try dsimp only at hSw);(have r0:=hSw.cell q0 (fun e=> e ho2);have r1:=hSw.cell q1 (fun e=> e ho2);have r2:=hSw.cell q2 (fun e=> e ho2);have s0:=hSw.cell p0 (fun e=> e ho1);have s1:=hSw.cell p1 (fun e=> e ho1));go_simp;try with_reducible rfl)
    try simp only [Act.put,List.setIfInBounds_toArray,List.set_cons_zero,List.set_cons_succ]
    refine hR [4] (by kernel_rfl) (by simp) (Ac.cons rfl (fun KH hKH=> ?_) .nil)
    go_simp
    (go_at_call 44;refine HBG.out.mono ?_;rintro e w5 ⟨rfl,b5⟩)
    try go_wp2_with fail
    refine hKH.out _ _ ?_ (fun hNew=> ?_)
    ·(first | exact(Ab.refl _ _).drew | exact hHeld.trans b5.2 | exact hHeld)
    clear hKH KH hHeld
    have hHeld:=hNew
    clear hNew
    try simp only [Act.put,List.setIfInBounds_toArray,List.set_cons_zero,List.set_cons_succ]
    refine hR [5] (by kernel_rfl) (by simp) (Ac.A7 rfl (by kernel_rfl) (fun KH hKH=> ?_) .nil)
    have HTX:=Aa (HT.out.kept hHeld (fun e=> e ho0))
    have hk9:=HTX.out.s3 (.int .i64 tn) (.bool tf) (.int .i64 ti)
    have c0:=HTX.out.get (j:=0) rfl
    have c1:=HTX.out.get (j:=1) rfl
    have c2:=HTX.out.get (j:=2) rfl
    have z0:=HTX.out.fz 0
    have z1:=HTX.out.fz 1
    have z2:=HTX.out.fz 2
    have f0:=hk9.get (j:=0) rfl
    have f1:=hk9.get (j:=1) rfl
    have f2:=hk9.get (j:=2) rfl
    have y0:=hk9.fz 0
    have y1:=hk9.fz 1
    have y2:=hk9.fz 2
    have HFT:=Aa (b5.store (HB.out.trans ((below_drewN (Below.refl W2.heap.size W2) 1).mono HB.out.size)) HH.out ((((Ab.refl (fun q=> q=w.heap.size) w5).setCell (p:=⟨w.heap.size,0,none⟩) rfl (.int .i64 tn)).setCell (p:=⟨w.heap.size,1,none⟩) rfl (.bool tf)).setCell (p:=⟨w.heap.size,2,none⟩) rfl (.int .i64 ti)) (fun q hq=> by rw [hq];exact⟨Nat.le_refl _,HLS.out.1⟩))
    clear hk9 b5
    go_simp
    refine hKH.out _ _ ?_
    clear hKH KH
    try clear hHeld
    try simp only [Act.put,List.setIfInBounds_toArray,List.set_cons_zero,List.set_cons_succ]
    refine hR [6] (by kernel_rfl) (by simp) (Ac.A7 rfl (by kernel_rfl) (fun KH hKH=> ?_) .nil)
    go_simp
    refine hKH.out _ _ ?_
    clear hKH KH
    try clear hHeld
    refine Ai (by kernel_rfl) ?_ _
    refine NoPanic.normal ?_
    go_wp2
    refine bodyPost_ret (v:= .tuple #[.agg #[.int .i64 tn, .bool tf, .int .i64 ti], .nilIface]) (by simp [results,Tryz.results17,go_sem,f0,f1,f2,y0,y1,y2]) rfl ?_
    rw [HOF.out]
    exact⟨rfl,HFT.out⟩
 ·have HOF:Hid (E5 F wk=((F4,(Ei F wk).2),F)):=by show _=_;unfold E5;dsimp only;rw [if_pos hr]
  have hrw:Tz F wk= .agg #[.int .i64 0, .int .i64 0]:=by unfold Tz;rw [if_neg hr]
  have he:=A0 hr
  rw [hrw,he] at HRO
  have HE:=Aa he
  clear hrw he HROOM HBEG HNX
  generalize (Ei F wk).2=er at *
  go_enter Tryz.func17,Tryz.ntmps17
  go_upto_region 1 with (fail)
  rw [←HW.out]
  clear HW
  go_wp2_with fail
  refine HRO.out.mono ?_
  rintro e w1 ⟨rfl,b1⟩
  replace HB:=Aa (HB.out.trans (b1.mono HB.out.size))
  replace HT:=Aa ((HT.out.later b1).alloc (.cells #[.int .i64 0, .int .i64 0] 60))
  have HW1:=Aa (Nat.lt_of_lt_of_le HWL.out b1.size)
  clear b1 HRO c1
  have HB9:=Aa (Hz (.int .i64 0) (.bool false) (.int .i64 0) (HB.out.alloc HB.out.size (.cells #[.int .i64 0, .int .i64 0] 60)) (Nat.le_refl w.heap.size))
  have hk9:=HT.out.s3 (.int .i64 0) (.bool false) (.int .i64 0)
  have c0:=HT.out.get (j:=0) rfl
  have c1:=HT.out.get (j:=1) rfl
  have c2:=HT.out.get (j:=2) rfl
  have z0:=HT.out.fz 0
  have z1:=HT.out.fz 1
  have z2:=HT.out.fz 2
  have f0:=hk9.get (j:=0) rfl
  have f1:=hk9.get (j:=1) rfl
  have f2:=hk9.get (j:=2) rfl
  have y0:=hk9.fz 0
  have y1:=hk9.fz 1
  have y2:=hk9.fz 2
  clear hk9
  go_wp2
  refine bodyPost_ret (v:= .tuple #[.agg #[.int .i64 0, .bool false, .int .i64 0], .iface 91 (.int .i64 er)]) (by simp [results,Tryz.results17,go_sem,f0,f1,f2,y0,y1,y2]) rfl ?_
  rw [HOF.out]
  exact⟨by rw [HE.out];rfl,B3.same HH.out HB9.out⟩
end
end Go.Proofs.YtbibeionenjmfaaGreatDoor
namespace Go.Proofs.YtbibeionenjmfaaGreatDoor
open Go.RowKit
def Ib (l:List As) (n:Nat):Prop:=∀ (i:Nat) p,l[i]?=some p→p.st=if i < n then 2 else 0
theorem Ib.find {l:List As} {n:Nat} (h:Ib l n):l.findIdx? (fun p=> p.st ==0)=if n < l.length then some n else none:=by
 by_cases hn:n < l.length
 ·rw [if_pos hn,List.findIdx?_eq_some_iff_getElem]
  refine⟨hn,?_,fun j hj=> ?_⟩
  ·have:=h n l[n] (List.getElem?_eq_getElem hn)
   rw [if_neg (by omega)] at this
   simp [this]
  ·have:=h j l[j] (List.getElem?_eq_getElem (by omega))
   rw [if_pos hj] at this
   simp [this]
 ·rw [if_neg hn,List.findIdx?_eq_none_iff]
  intro p hp
  obtain⟨i,hi⟩:=List.mem_iff_getElem?.1 hp
  have h1:=(List.getElem?_eq_some_iff.1 hi).1
  have:=h i p hi
  rw [if_pos (by omega)] at this
  simp [this]
theorem Ib.all {l:List As} {n:Nat} (h:Ib l n):Sg l=decide (l.length≤n):=by
 unfold Sg
 rw [Bool.eq_iff_iff,List.all_eq_true,decide_eq_true_eq]
 constructor
 ·intro h1
  refine Nat.le_of_not_lt fun hlt=> ?_
  have h2:=h n l[n] (List.getElem?_eq_getElem hlt)
  have h3:=h1 l[n] (List.getElem_mem hlt)
  rw [if_neg (by omega)] at h2
  rw [h2] at h3
  cases h3
 ·intro h1 p hp
  obtain⟨i,hi⟩:=List.mem_iff_getElem?.1 hp
  have h2:=(List.getElem?_eq_some_iff.1 hi).1
  have:=h i p hi
  rw [if_pos (by omega)] at this
  rw [this];rfl
theorem Afx (p:As) (l:List As):Gb (p::l)=(if p.st=2 then 1 else 0)+Gb l:=by
 unfold Gb
 rw [List.filter_cons]
 by_cases h:p.st=2
 ·simp [h];omega
 ·simp [h]
theorem Ib.Se:∀ {l:List As} {n:Nat},Ib l n→Gb l=min n l.length
 | [],n,_=> by simp [Gb]
 | p::l,n,h=> by
   have h0:=h 0 p rfl
   have h1:Ib l (n - 1):=fun i q hq=> by
    have:=h (i+1) q hq
    rw [this]
    by_cases hi:i+1 < n
    ·rw [if_pos hi,if_pos (by omega)]
    ·rw [if_neg hi,if_neg (by omega)]
   have h2:=Ib.Se h1
   rw [Afx,h2,List.length_cons]
   by_cases hn:0 < n
   ·rw [if_pos hn] at h0
    rw [if_pos h0];omega
   ·rw [if_neg hn] at h0
    rw [if_neg (by omega)];omega
theorem Ib.next {l:List As} {n:Nat} (h:Ib l n) (f:As→As) (hf:∀ p,(f p).st=2):Ib (l.modify n f) (n+1):=fun i p hi=> by
 rw [get_modify] at hi
 by_cases hn:n=i
 ·rw [if_pos hn] at hi
  obtain⟨q,_,rfl⟩:=Option.map_eq_some_iff.1 hi
  rw [hf,if_pos (by omega)]
 ·rw [if_neg hn] at hi
  rw [h i p hi]
  by_cases h1:i < n
  ·rw [if_pos h1,if_pos (by omega)]
  ·rw [if_neg h1,if_neg (by omega)]
structure Ez (F:Ad) (m P S:Nat) (wh:Nat→Nat) (n:Nat):Prop extends Dw F where
 qs1:F.Al= [(1,12)]
 sl1:F.Ap=List.replicate m [D4]
 s1:1≤S
 Acj:∃ o,F.Aj= [o]∧o.queue=0∧o.parts.length=P∧o.Cc.length=S∧Ib o.parts n∧Ib o.Cc (n - P)∧∀ (i:Nat) p,i < n→o.parts[i]?=some p→p.wh=(wh i:Int)
def B9 (P n:Nat):Eg:=(0,decide (P≤n),if n < P then n else n - P)
section
variable {F:Ad} {m P S n:Nat} {wh:Nat→Nat}
theorem Ez.Ik (h:Ez F m P S wh n) {o:Bg} (ho:F.Aj= [o]):Ik o=if n < P+S then some (decide (P≤n),if n < P then n else n - P) else none:=by
 obtain⟨o',ho',_,h2,h3,h4,h5,_⟩:=h.Acj
 rw [ho] at ho'
 injection ho' with e
 subst e
 unfold Go.Proofs.YtbibeionenjmfaaGreatDoor.Ik
 rw [h5.all,h4.find,h4.all,h5.find,h2,h3]
 have hs:=h.s1
 by_cases h6:n < P+S
 ·rw [if_pos h6,if_neg (by simp;omega)]
  by_cases h7:n < P
  ·rw [if_pos h7,if_pos h7]
   dsimp only
   rw [decide_eq_false (by omega)]
  ·rw [if_neg h7,if_neg h7]
   dsimp only
   rw [if_pos (by simp;omega),if_pos (by omega),decide_eq_true (by omega)]
   rfl
 ·rw [if_neg h6,if_pos (by simp;omega)]
theorem Ez.row (h:Ez F m P S wh n) {w:Nat} (hw:w < m):F.Ap[w]?=some [D4]:=by rw [h.sl1];simp [hw]
theorem Ez.idle (h:Ez F m P S wh n):∀ w k a,Aw F w k=some a→a.on=false:=fun w k a ha=> by
 unfold Aw at ha
 cases hr:F.Ap[w]? with
 | none=> rw [hr] at ha;cases ha
 | some row=>
   rw [hr] at ha
   have hm:=List.mem_of_getElem? hr
   rw [h.sl1] at hm
   rw [(List.mem_replicate.1 hm).2] at ha
   have ha':([D4]:List F3)[k]?=some a:=ha
   have:=List.mem_of_getElem? ha'
   rw [List.mem_singleton.1 this];rfl
theorem Ez.Ig (h:Ez F m P S wh n):Ig F=if n < P+S then some (B9 P n) else none:=by
 obtain⟨o,ho,h1,_⟩:=h.Acj
 have hj:=h.Ik ho
 have hh:Mm F= [0]:=by
  rw [Af5 h.idle,h.qs1]
  rfl
 have hq:De 0 0 F.Aj=if n < P+S then some (B9 P n) else none:=by
  rw [ho]
  unfold De
  rw [if_pos h1,hj]
  by_cases h6:n < P+S
  ·rw [if_pos h6,if_pos h6];rfl
  ·rw [if_neg h6,if_neg h6];rfl
 have hw:E3 F= [(De 0 0 F.Aj).isSome]:=by unfold E3;rw [h.qs1];rfl
 unfold Go.Proofs.YtbibeionenjmfaaGreatDoor.Ig
 rw [hh,hw,hq,h.qs1]
 by_cases h6:n < P+S
 ·rw [if_pos h6]
  have:Ca [(1,12)] [0] [(some (B9 P n)).isSome] [((1:Int),(12:Int))].length=0:=by show Ca [(1,12)] [0] [true] 1=0;decide
  dsimp only
  rw [this,if_neg (by decide)]
  exact hq.trans (if_pos h6)
 ·rw [if_neg h6]
  have:Ca [(1,12)] [0] [(none:Option Eg).isSome] [((1:Int),(12:Int))].length= -1:=by show Ca [(1,12)] [0] [false] 1= -1;decide
  dsimp only
  rw [this,if_pos (by decide)]
theorem Ez.room (h:Ez F m P S wh n) {w:Nat} (hw:w < m):Ei F (w:Int)=(0,0):=by
 unfold Ei
 rw [if_neg (by omega),Int.toNat_natCast,h.row hw]
 rfl
theorem Ez.offer (h:Ez F m P S wh n) {w:Nat} (hw:w < m):E5 F (w:Int)=if n < P+S then((B9 P n,0),Br F w 0 (B9 P n)) else((F4,5),F):=by
 unfold E5
 rw [h.room hw,h.Ig]
 dsimp only
 rw [if_neg (by decide),Int.toNat_natCast]
 by_cases h6:n < P+S
 ·rw [if_pos h6,if_pos h6]
 ·rw [if_neg h6,if_neg h6]
theorem Ez.status (h:Ez F m P S wh n):∃ o,F.Aj[0]?=some o∧o.queue=0∧o.parts.length=P∧o.Cc.length=S∧Gb o.parts=min n P∧Gb o.Cc=min (n - P) S:=by
 obtain⟨o,ho,h1,h2,h3,h4,h5,_⟩:=h.Acj
 refine⟨o,by rw [ho];rfl,h1,h2,h3,?_,?_⟩
 ·rw [h4.Se,h2]
 ·rw [h5.Se,h3]
theorem Ez.slot (h:Ez F m P S wh n) {w:Nat} (hw:w < m):Aw F w 0=some D4:=by unfold Aw;rw [h.row hw];rfl
theorem Ez.task (h:Ez F m P S wh n) (hn:n < P+S):∃ p,ofM F (B9 P n)=some p∧p.st=0:=by
 obtain⟨o,ho,_⟩:=h.Acj
 refine S5 (o:=o) (by rw [ho];rfl) ?_
 have:=h.Ik ho
 rw [if_pos hn] at this
 exact this
theorem Py {α:Type} {l:List α} {i:Nat} {x:α} (f g:α→α) (h:l[i]?=some x) (hx:g (f x)=x):(l.modify i f).modify i g=l:=by
 apply List.ext_getElem?
 intro j
 rw [get_modify,get_modify]
 by_cases hj:i=j
 ·subst hj
  rw [if_pos rfl,if_pos rfl,h]
  exact congrArg some hx
 ·rw [if_neg hj,if_neg hj]
theorem Ez.work (h:Ez F m P S wh n) (hn:n < P+S) {w:Nat} (hw:w < m) (hwh:n < P→wh n=w) {many:Int} (h0:0 < many) (hmany:∀ p,ofM F (B9 P n)=some p→(p.many:Int)≤many):
 (H4 (Br F w 0 (B9 P n)) (w:Int) many).1=0∧Ez (H4 (Br F w 0 (B9 P n)) (w:Int) many).2 m P S wh (n+1):=by
 obtain⟨p,hp,hp0⟩:=h.task hn
 have hi1:Dw (Br F w 0 (B9 P n)):=h.toDw.begin (h.slot hw) rfl hp
 obtain⟨Ys,hatt⟩:∃ a,a=(⟨true,B9 P n,((ofM F (B9 P n)).map fun p=> p.saved.toNat).getD 0⟩:F3):=⟨_,rfl⟩
 have hsl:(Br F w 0 (B9 P n)).Ap=F.Ap.modify w fun row=> row.set 0 Ys:=by rw [hatt];rfl
 have hrow:=h.row hw
 have hr:(Br F w 0 (B9 P n)).Ap[w]?=some [Ys]:=by rw [hsl,get_modify,if_pos rfl,hrow];rfl
 have hwk:H4 (Br F w 0 (B9 P n)) (w:Int) many=(0,Cq (Br F w 0 (B9 P n)) w 0 many):=by
  unfold H4
  rw [if_neg (by omega),Int.toNat_natCast,hr]
  rfl
 have hof:ofM (Br F w 0 (B9 P n)) (B9 P n)=some {p with st:=1}:=by
  unfold Br
  rw [R9,P3,if_pos rfl,hp]
  rfl
 rw [hwk]
 refine⟨rfl,?_⟩
 have hiv:Dw (Cq (Br F w 0 (B9 P n)) w 0 many):=hi1.Cq w 0 many
 have hs0:((Br F w 0 (B9 P n)).Ap[w]?).bind (·[0]?)=some Ys:=by rw [hr];rfl
 have hat:Ys.at_≤p.many:=by
  obtain⟨_,ha,hle⟩:=hi1.Ys w 0 Ys hs0 (by rw [hatt])
  rw [show Ys.t=B9 P n by rw [hatt]] at ha
  rw [hof] at ha
  cases ha
  exact hle
 have hmm:=hmany p hp
 have hjobs:(Cq (Br F w 0 (B9 P n)) w 0 many).Aj=(setOf (Br F w 0 (B9 P n)) (B9 P n) (Ma w)).Aj∧(Cq (Br F w 0 (B9 P n)) w 0 many).Al=F.Al∧(Cq (Br F w 0 (B9 P n)) w 0 many).Ap=F.Ap:=by
  have hst:(Aq (Br F w 0 (B9 P n)) w 0 D4).Ap=F.Ap:=by
   unfold Aq
   rw [hsl]
   exact Py _ _ hrow rfl
  unfold Cq
  rw [hs0]
  dsimp only
  rw [show Ys.t=B9 P n by rw [hatt],show Ys.on=true by rw [hatt],hof]
  rw [if_neg (by simp)]
  dsimp only
  rw [if_pos h0,if_neg (by omega),if_neg (by decide)]
  split
  ·exact⟨rfl,rfl,hst⟩
  ·exact⟨rfl,rfl,hst⟩
 obtain⟨hj,hq,hs⟩:=hjobs
 obtain⟨o,ho,h1,h2,h3,h4,h5,h6⟩:=h.Acj
 have hjj:(setOf (Br F w 0 (B9 P n)) (B9 P n) (Ma w)).Aj= [A1 (A1 o (decide (P≤n)) (if n < P then n else n - P) fun p=> {p with st:=1}) (decide (P≤n)) (if n < P then n else n - P) (Ma w)]:=by
  unfold Br Aq setOf
  dsimp only
  rw [ho]
  rfl
 have hmm2:∀ (l:List As) (k:Nat),((l.modify k fun p=> {p with st:=1}).modify k (Ma w))=l.modify k (fun p=> Ma w {p with st:=1}):=fun l k=> by
  apply List.ext_getElem?
  intro j
  rw [get_modify,get_modify,get_modify]
  by_cases hj:k=j
  ·rw [if_pos hj,if_pos hj,if_pos hj];cases l[j]? <;> rfl
  ·rw [if_neg hj,if_neg hj,if_neg hj]
 refine⟨hiv,hq.trans h.qs1,hs.trans h.sl1,h.s1,_,hj.trans hjj,?_⟩
 by_cases h7:n < P
 ·rw [if_pos h7,decide_eq_false (by omega)]
  refine⟨h1,by unfold A1;simp [h2],h3,?_,?_,fun i q hi hq=> ?_⟩
  ·show Ib ((o.parts.modify n _).modify n _) (n+1)
   rw [hmm2]
   exact h4.next _ fun p=> rfl
  ·show Ib o.Cc (n+1 - P)
   have e:n+1 - P=n - P:=by omega
   rw [e];exact h5
  ·have hq':((o.parts.modify n fun p=> {p with st:=1}).modify n (Ma w))[i]?=some q:=hq
   rw [hmm2,get_modify] at hq'
   by_cases e:n=i
   ·rw [if_pos e] at hq'
    obtain⟨q0,_,rfl⟩:=Option.map_eq_some_iff.1 hq'
    rw [←e,hwh h7];rfl
   ·rw [if_neg e] at hq'
    exact h6 i q (by omega) hq'
 ·rw [if_neg h7,decide_eq_true (by omega)]
  refine⟨h1,h2,by unfold A1;simp [h3],?_,?_,fun i q hi hq=> ?_⟩
  ·intro i p hi
   have:=h4 i p hi
   have hil:i < o.parts.length:=(List.getElem?_eq_some_iff.1 hi).1
   rw [this,if_pos (by omega),if_pos (by omega)]
  ·show Ib ((o.Cc.modify (n - P) _).modify (n - P) _) (n+1 - P)
   rw [hmm2,show n+1 - P=(n - P)+1 by omega]
   exact h5.next _ fun p=> rfl
  ·have hq':o.parts[i]?=some q:=hq
   have hil:=(List.getElem?_eq_some_iff.1 hq').1
   exact h6 i q (by omega) hq'
end
theorem Adc {m:Nat} (hm:1≤m∧m≤4) {prog inp:List UInt8} {size:Int} (h:(Cx (Gi [(1,12)] m 1) 0 prog inp size).1.2=0) (wh:Nat→Nat):∃ o,(Cx (Gi [(1,12)] m 1) 0 prog inp size).2.Aj= [o]∧(∃ rv fold slices early,N6 prog=some (rv,fold,slices,early)∧o=Dy 0 rv fold slices early ((Mr inp).map tx) size.toNat)∧Ez (Cx (Gi [(1,12)] m 1) 0 prog inp size).2 m o.parts.length o.Cc.length wh 0:=by
 have hi:Dw (Cx (Gi [(1,12)] m 1) 0 prog inp size).2:=(Ti (by decide) hm (by decide)).Ok 0 prog inp size
 revert h hi
 unfold Cx
 dsimp only
 by_cases h1:(Ex (Gi [(1,12)] m 1) 0 prog inp size).1≠0
 ·rw [if_pos h1]
  intro h;exact absurd h h1
 ·rw [if_neg h1]
  intro _ hi
  have hj:∃ rv fold slices early,N6 prog=some (rv,fold,slices,early)∧(Ex (Gi [(1,12)] m 1) 0 prog inp size).2={Gi [(1,12)] m 1 with Aj:= [Dy 0 rv fold slices early ((Mr inp).map tx) size.toNat]}:=by
   revert h1
   unfold Ex
   rw [if_neg (show ¬ ((0:Int) < 0∨(((Gi [(1,12)] m 1).Al.length:Nat):Int)≤0) by show ¬ ((0:Int) < 0∨((1:Nat):Int)≤0);decide),if_neg (show ¬ ((Gi [(1,12)] m 1).Aj.length=6) by show ¬ ((0:Nat)=6);decide)]
   cases N6 prog with
   | none=>
     intro h1
     refine absurd ?_ h1
     show Wb prog≠0
     unfold Wb;split <;> decide
   | some x=>
     obtain⟨rv,fold,slices,early⟩:=x
     dsimp only
     by_cases h2:Ns inp≠0
     ·rw [if_pos h2];intro h1;exact absurd h2 h1
     ·rw [if_neg h2]
      by_cases h3:size < 1∨60 < size
      ·rw [if_pos h3];intro h1;exact absurd (show ¬ (1:Int)=0 by decide) h1
      ·rw [if_neg h3]
       intro _
       exact⟨rv,fold,slices,early,rfl,rfl⟩
  obtain⟨rv,fold,slices,early,hjm,e⟩:=hj
  rw [e] at hi ⊢
  have hs1:1≤(Dy 0 rv fold slices early ((Mr inp).map tx) size.toNat).Cc.length:=by
   have h5:=(Na (Aeh hjm).1).2.2.1
   show 1≤((List.range slices).map _).length
   rw [List.length_map,List.length_range]
   omega
  refine⟨_,rfl,⟨rv,fold,slices,early,hjm,rfl⟩,hi,rfl,rfl,hs1,_,rfl,rfl,rfl,rfl,fun i p hp=> ?_,fun i p hp=> ?_,fun i p hi0 _=> by omega⟩
  ·rw [(Mn (go:=false) (q:=0) (rv:=rv) (fold:=fold) (slices:=slices) (early:=early) (lines:=(Mr inp).map tx) (size:=size.toNat) hp).2,if_neg (by omega)]
  ·rw [(Mn (go:=true) (q:=0) (rv:=rv) (fold:=fold) (slices:=slices) (early:=early) (lines:=(Mr inp).map tx) (size:=size.toNat) hp).2,if_neg (by omega)]
end Go.Proofs.YtbibeionenjmfaaGreatDoor
