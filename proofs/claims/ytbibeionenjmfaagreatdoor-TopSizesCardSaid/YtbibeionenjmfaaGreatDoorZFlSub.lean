/- The floor: Submit. -/
import Derived.Test.YtbibeionenjmfaaGreatDoorZFlOffer
import Derived.Test.YtbibeionenjmfaaGreatDoorZChunk
import Derived.Test.YtbibeionenjmfaaGreatDoorZRecords
import Derived.OrdersIn
import Derived.TacticsIn
import Derived.Test.YtbibeionenjmfaaGreatDoorZJour
set_option linter.unusedSimpArgs false
set_option linter.unusedVariables false
namespace Go.Proofs.YtbibeionenjmfaaGreatDoor
open Go.RowKit
section
variable {w0 w w':World} {own own1:Nat→Ez} {G:Bg} {F F':Ad} {T:Nat→Prop} {n:Nat} {g g':Ec} {o o':Ba}
theorem B8.Aqa (h:B8 w0 w own G F) (ha:∀ q,own q≠ .out→own1 q=own q) (hl:∀ q,own1 q≠ .out→w0.heap.size≤q∧q < w'.heap.size) (k:Ab T w w') (hT:∀ q,T q→own q= .Mc n∨own q= .parts n∨own q= .outs n∨own q= .saved n) (hg:G.jg[n]?=some g) (ho:F.Af[n]?=some o) (hc:Fh w0 w' own1 n g' o') (eg:Wi g g') (eo:Ed o o')
 (e1:F'.Aj=F.Aj) (e2:F'.Ag=F.Ag) (e3:F'.log=F.log) (e4:F'.Af=F.Af.set n o'):B8 w0 w' own1 {G with jg:=G.jg.set n g'} F':=by
 have e:∀ {q:Nat} {c:Ez},own q=c→c≠ .out→own1 q=c:=fun {q c} hq hc=> (ha q (by rw [hq];exact hc)).trans hq
 have hno:∀ {q:Nat} {c:Ez},own q=c→c≠ .Mc n→c≠ .parts n→c≠ .outs n→c≠ .saved n→¬ T q:=fun {q c} hq h1 h2 h3 h4 ht=> by
  rcases hT q ht with e | e | e | e <;> rw [e] at hq
  ·exact h1 hq.symm
  ·exact h2 hq.symm
  ·exact h3 hq.symm
  ·exact h4 hq.symm
 have hlo:∀ q,T q→w0.heap.size≤q:=fun q hq=> (h.lo q (by rcases hT q hq with e | e | e | e <;> rw [e] <;> simp)).1
 have hnl:n < G.jg.length:=(List.getElem?_eq_some_iff.1 hg).1
 have hol:n < F.Af.length:=(List.getElem?_eq_some_iff.1 ho).1
 exact {
  gw:=h.gw
  E5:=h.E5.trans (k.below hlo h.E5.size)
  lo:=hl
  bk:=by rw [e1,e3];exact h.bk.kept k (hno h.oh (by simp) (by simp) (by simp) (by simp))
  oh:=e h.oh (by simp)
  qs:=by rw [e1];exact h.qs.kept k fun b o e1=> hno (h.oq b o e1) (by simp) (by simp) (by simp) (by simp)
  oq:=fun b o e1=> e (h.oq b o e1) (by simp)
  bt:=by rw [e2];exact h.bt.kept k (hno h.ob.1 (by simp) (by simp) (by simp) (by simp)) (hno h.ob.2.1 (by simp) (by simp) (by simp) (by simp)) fun i r hr=> hno (h.ob.2.2 r (List.mem_of_getElem? hr)) (by simp) (by simp) (by simp) (by simp)
  ob:=⟨e h.ob.1 (by simp),e h.ob.2.1 (by simp),fun r hr=> e (h.ob.2.2 r hr) (by simp)⟩
  rn:=h.rn.kept k (hno h.P8 (by simp) (by simp) (by simp) (by simp))
  P8:=e h.P8 (by simp)
  rd:=h.rd
  rr:=fun a b t h1 h2=> by
   have h1':An F a b=some t:=by unfold An at h1 ⊢;rw [←e2];exact h1
   obtain⟨v,g0,o0,x1,x2,x3,x4⟩:=h.rr a b t h1' h2
   have x5:=x4.kept k fun q hq=> by rcases hT q hq with e | e | e | e <;> rw [e] <;> simp
   by_cases hn:t.t.1=n
   ·rw [hn] at x2 x3
    rw [hg] at x2;rw [ho] at x3
    cases x2;cases x3
    exact⟨v,g',o',x1,by rw [hn];exact List.getElem?_set_self hnl,by rw [hn,e4];exact List.getElem?_set_self hol,(x5.to eg eo).re ha⟩
   ·exact⟨v,g0,o0,x1,by rw [List.getElem?_set_ne (fun e=> hn e.symm)];exact x2,by rw [e4,List.getElem?_set_ne (fun e=> hn e.symm)];exact x3,x5.re ha⟩
  jo:=by
   have:(G.jg.set n g').map Ec.xb=G.jg.map Ec.xb:=by
    rw [List.map_set,eg.1]
    exact M0 (by rw [List.getElem?_map,hg];rfl)
   rw [this]
   exact k.own h.jo fun q hq=> hno (h.oj q hq) (by simp) (by simp) (by simp) (by simp)
  oj:=fun q hq=> e (h.oj q hq) (by simp)
  jn:=by rw [e4,List.length_set,List.length_set];exact h.jn
  js:=fun m g1 o1 h1 h2=> by
   rw [e4] at h2
   by_cases hm:n=m
   ·subst hm
    rw [List.getElem?_set_self hnl] at h1
    rw [List.getElem?_set_self hol] at h2
    cases h1;cases h2
    exact hc
   ·rw [List.getElem?_set_ne hm] at h1 h2
    refine((h.js m g1 o1 h1 h2).kept k fun q hq=> ?_).re ha
    rcases hT q hq with e | e | e | e <;> rw [e] <;> refine⟨by simp,by simp,?_,?_,?_,?_⟩ <;> simp [hm]}
def E3 (wk:Int) (p:As):As:={p with st:=2,wh:=wk,saved:= -1}
theorem JSv.drop {fold:Bool} {i:Nat} {p:As} {wk:Int} (h:JSv w own n g o) (hp:(Eb o fold)[i]?=some p) (sv':Ds w' Tryz.prog 33 g.mb (M8 g.sf (C9 (n,fold,i)) none)) {g':Ec} (e1:g'.mb=g.mb) (e2:g'.sf=M8 g.sf (C9 (n,fold,i)) none):
 JSv w' own n g' (A5 o fold i (E3 wk)) where
 sv:=by rw [e1,e2];exact sv'
 om:=by rw [e1];exact h.om
 ss:=fun fo j q hq=> by
  rw [Lz] at hq
  rw [e2]
  by_cases hc:fo=fold∧j=i
  ·rw [if_pos hc] at hq
   obtain⟨rfl,rfl⟩:=hc
   rw [hp] at hq
   cases hq
   refine⟨fun _=> Hu _ _ _,fun h0=> ?_⟩
   exfalso
   have:(E3 wk p).saved= -1:=rfl
   omega
  ·rw [if_neg hc] at hq
   rw [Fx fun e=> hc (by have h5:=All e;simp only [Prod.mk.injEq] at h5;exact⟨h5.2.1,h5.2.2⟩)]
   obtain⟨h1,h2⟩:=h.ss fo j q hq
   refine⟨h1,fun h0=> ?_⟩
   obtain⟨s,h3,h4⟩:=h2 h0
   exact⟨s,h3,(Ed.A5 o fold i (E3 wk)).saved h4⟩
 sd:=fun x hx=> by
  rw [e2] at hx
  by_cases hxe:x=C9 (n,fold,i)
  ·rw [hxe,Hu] at hx;exact absurd rfl hx
  ·rw [Fx hxe] at hx;exact h.sd x hx
theorem Fh.Apj {i ob:Nat} {p:As} {wk:Int} {lv ov:Value} {vs:List Value} (h:Fh w0 w own n g o) (hp:o.parts[i]?=some p) (hpl:g.pl[i]?=some (lv,ov)) (k:Ab T w w') (hT:∀ q,T q→own q= .Mc n∨own q= .saved n∨own q= .parts n)
 (rt':RT w' w0.heap.size g.tb g.pb g.sb (L3 false (o.parts.map J6) i (2,wk)) (Ic false (o.Bw.map J6) i (2,wk))) (sv':Ds w' Tryz.prog 33 g.mb (M8 g.sf (C9 (n,false,i)) none))
 (po':Own 2 Ew 133 w' w0.heap.size g.pv (g.pl.set i (lv, .slice (some ⟨ob,0,none⟩) o.slices o.slices))) (hr:Wh own w' w0.heap.size ob vs (Ko o.fold o.early o.slices (Bf o.rs o.fold (Aq o i)))):
 Fh w0 w' own n {g with pl:=g.pl.set i (lv, .slice (some ⟨ob,0,none⟩) o.slices o.slices),sf:=M8 g.sf (C9 (n,false,i)) none} (A5 o false i (E3 wk)):=by
 have hs:=Ed.A5 o false i (E3 wk)
 obtain⟨e1,e2⟩:=Q5 (E3 wk) (o:=o) (fold:=false) hp
 have hne:∀ q,T q→own q≠ .Kq∧own q≠ .one n∧own q≠ .outs n:=fun q hq=> by rcases hT q hq with e | e | e <;> rw [e] <;> simp
 have hh:=(h.hd.kept k fun q hq=> ⟨(hne q hq).1,(hne q hq).2.1⟩).to hs
 refine⟨⟨hh.bk,hh.ox,hh.ru,hh.rv,hh.nb⟩,⟨by rw [e1,e2];exact rt',h.tk.ot⟩,?_,?_,h.sv.drop hp sv' rfl rfl⟩
 ·exact {
   po:=po'
   op:=h.pt.op
   pn:=by
    have h1:(A5 o false i (E3 wk)).parts=o.parts.modify i (E3 wk):=rfl
    rw [h1,List.length_set,List.length_modify];exact h.pt.pn
   li:=fun j lv1 ov1 hj=> by
    have hx:∃ ov2,g.pl[j]?=some (lv1,ov2):=by
     by_cases hji:i=j
     ·subst hji
      rw [List.getElem?_set_self (List.getElem?_eq_some_iff.1 hpl).1] at hj
      cases hj
      exact⟨ov,hpl⟩
     ·rw [List.getElem?_set_ne hji] at hj
      exact⟨ov1,hj⟩
    obtain⟨ov2,hx⟩:=hx
    rw [hs.lines]
    obtain⟨la,lc,e,h1,h2,h3⟩:=h.pt.li j lv1 ov2 hx
    exact⟨la,lc,e,h1.kept k fun b o e1 e2=> (hne b e2).1 (h3 b o e1),h2,h3⟩
   mp:=fun j p1 lv1 ov1 hp1 hj h2=> by
    rw [hs.lines,hs.2.1,hs.2.2.1,hs.2.2.2.1,hs.2.2.2.2.1]
    by_cases hji:i=j
    ·subst hji
     rw [List.getElem?_set_self (List.getElem?_eq_some_iff.1 hpl).1] at hj
     cases hj
     exact⟨ob,vs,rfl,hr⟩
    ·rw [List.getElem?_set_ne hji] at hj
     have h1:(A5 o false i (E3 wk)).parts=o.parts.modify i (E3 wk):=rfl
     rw [h1,get_modify,if_neg hji] at hp1
     obtain⟨ob1,vs1,e3,h4⟩:=h.pt.mp j p1 lv1 ov1 hp1 hj h2
     exact⟨ob1,vs1,e3,h4.kept k fun q hq=> (hne q hq).1⟩}
 ·have:=(h.os.kept k fun q hq=> (hne q hq).2.2).to hs fun j p1 hj h2=> ⟨p1,hj,h2⟩
  exact⟨this.os,this.oo,this.on_,this.od⟩
theorem Fh.Api {i:Nat} {p:As} {wk:Int} {s:ByteArray} (h:Fh w0 w own n g o) (hp:o.Bw[i]?=some p) (hs0:o.out[i]?=some s) (k:Ab T w w') (hT:∀ q,T q→own q= .Mc n∨own q= .saved n∨own q= .outs n)
 (rt':RT w' w0.heap.size g.tb g.pb g.sb (L3 true (o.parts.map J6) i (2,wk)) (Ic true (o.Bw.map J6) i (2,wk))) (sv':Ds w' Tryz.prog 33 g.mb (M8 g.sf (C9 (n,true,i)) none))
 (os':Own 1 Cm 9 w' w0.heap.size (.slice (some ⟨g.ob,0,none⟩) o.slices o.slices) (g.os.set i s)) (hi:i < g.os.length):
 Fh w0 w' own n {g with os:=g.os.set i s,sf:=M8 g.sf (C9 (n,true,i)) none} (A5 o true i (E3 wk)):=by
 have hs:=Ed.A5 o true i (E3 wk)
 obtain⟨e1,e2⟩:=Q5 (E3 wk) (o:=o) (fold:=true) hp
 have hne:∀ q,T q→own q≠ .Kq∧own q≠ .one n∧own q≠ .parts n:=fun q hq=> by rcases hT q hq with e | e | e <;> rw [e] <;> simp
 have hh:=(h.hd.kept k fun q hq=> ⟨(hne q hq).1,(hne q hq).2.1⟩).to hs
 have hpt:=(h.pt.kept k fun q hq=> ⟨(hne q hq).1,(hne q hq).2.2⟩).to hs rfl fun j p1 hj h2=> ⟨p1,hj,h2⟩
 refine⟨⟨hh.bk,hh.ox,hh.ru,hh.rv,hh.nb⟩,⟨by rw [e1,e2];exact rt',h.tk.ot⟩,⟨hpt.po,hpt.op,hpt.pn,hpt.li,hpt.mp⟩,?_,h.sv.drop hp sv' rfl rfl⟩
 refine⟨by rw [hs.2.2.2.1];exact os',h.os.oo,by rw [hs.2.2.2.1,List.length_set];exact h.os.on_,fun j p1 hj h2=> ?_⟩
 rw [hs.2.2.2.2.2.2.2]
 by_cases hji:i=j
 ·subst hji
  rw [List.getElem?_set_self hi,hs0]
 ·rw [List.getElem?_set_ne hji]
  have h1:(A5 o true i (E3 wk)).Bw=o.Bw.modify i (E3 wk):=rfl
  rw [h1,get_modify,if_neg hji] at hj
  exact h.os.od j p1 hj h2
theorem Fh.partAt {i:Nat} (h:Fh w0 w own n g o) (hi:i < o.parts.length):∃ gb cap lv ov,g.pv= .slice (some ⟨gb,0,none⟩) o.parts.length cap∧g.pl[i]?=some (lv,ov)∧own gb= .parts n∧w.cell? ⟨gb,i * 2+1,none⟩=some ov:=by
 obtain⟨gb,cap,e,_⟩:=h.pt.po.addr (by rw [h.pt.pn];omega)
 obtain⟨⟨lv,ov⟩,hl⟩:∃ x,g.pl[i]?=some x:=⟨_,List.getElem?_eq_getElem (by rw [h.pt.pn];exact hi)⟩
 have hpo:=h.pt.po
 rw [e] at hpo
 exact⟨gb,cap,lv,ov,by rw [e,h.pt.pn],hl,h.pt.op gb (by rw [e];rfl),hpo.cellAt (j:=1) Jt hl rfl⟩
theorem O7.in_ {w:World} {B ob:Nat} {vs:List Value} {ls:List (List Pr)} (h:O7 w B ob vs ls):(B≤ob∧ob < w.heap.size)∧∀ v∈vs,∀ q,v.ownBlock=some q→B≤q∧q < w.heap.size:=by
 refine⟨⟨h.lo,h.bk.lt⟩,fun v hv q hq=> ?_⟩
 obtain⟨k,hk⟩:=List.mem_iff_getElem?.1 hv
 have hlt:=(List.getElem?_eq_some_iff.1 hk).1
 have hll:k < ls.length:=by rw [←h.len];exact hlt
 exact(h.own k v _ hk (List.getElem?_eq_getElem hll)).lt q hq
theorem Adc {w2 w4 w5:World} {G2:Bg} {F1:Ad} {i ob gb cap:Nat} {p:As} {wk:Int} {lv ov:Value} {vs:List Value} (kw:Ab (fun q=> own q≠ .out) w w2) (hfb:G2.fb=G.fb) (h2:B8 w0 w2 own G2 F1) (hg:G2.jg[n]?=some g) (ho:F1.Af[n]?=some o) (hp:o.parts[i]?=some p)
 (k24:Ab (fun q=> own q= .Mc n∨own q= .saved n) w2 w4) (rt4:RT w4 w0.heap.size g.tb g.pb g.sb (L3 false (o.parts.map J6) i (2,wk)) (Ic false (o.Bw.map J6) i (2,wk))) (m4:Ds w4 Tryz.prog 33 g.mb (M8 g.sf (C9 (n,false,i)) none)) (b45:Below w4.heap.size w4 w5)
 (hpv:g.pv= .slice (some ⟨gb,0,none⟩) o.parts.length cap) (hpl:g.pl[i]?=some (lv,ov)) (hr:O7 w5 w4.heap.size ob vs (Ko o.fold o.early o.slices (Bf o.rs o.fold (Aq o i)))):
 Bu w0 w own G (setOf F1 (n,false,i) (E3 wk)) (w5.setCell ⟨gb,i * 2+1,none⟩ (.slice (some ⟨ob,0,none⟩) o.slices o.slices)):=by
 obtain⟨w6,hw6⟩:∃ w6,w6=w5.setCell ⟨gb,i * 2+1,none⟩ (.slice (some ⟨ob,0,none⟩) o.slices o.slices):=⟨_,rfl⟩
 have hc:=h2.js n g o hg ho
 have hgb:own gb= .parts n:=hc.pt.op gb (by rw [hpv];rfl)
 have k56:Ab (fun q=> q=gb) w5 w6:=by rw [hw6];exact(Ab.refl (fun q=> q=gb) w5).setCell (p:=⟨gb,i * 2+1,none⟩) rfl _
 have hs24:=k24.size
 have hs45:=b45.size
 have hs56:=k56.size
 have hlt2:∀ q,own q≠ .out→q < w2.heap.size:=fun q hq=> (h2.lo q hq).2
 obtain⟨own1,hown1⟩:∃ own1,own1=Dr own w4.heap.size w5.heap.size .Kq:=⟨_,rfl⟩
 have ha:∀ q,own q≠ .out→own1 q=own q:=fun q hq=> by
  rw [hown1];exact Ch (by have:=hlt2 q hq;omega)
 have hfx:∀ q,w4.heap.size≤q→q < w5.heap.size→own1 q= .Kq:=fun q x1 x2=> by rw [hown1];exact Gu ⟨x1,x2⟩
 have e:∀ {q:Nat} {c:Ez},own q=c→c≠ .out→own1 q=c:=fun {q c} hq hc=> (ha q (by rw [hq];exact hc)).trans hq
 have hl:∀ q,own1 q≠ .out→w0.heap.size≤q∧q < w6.heap.size:=fun q hq=> by
  by_cases hin:w4.heap.size≤q∧q < w5.heap.size
  ·have:=h2.E5.size
   omega
  ·rw [hown1,Ch hin] at hq
   have:=h2.lo q hq
   omega
 have k26:Ab (fun q=> own q= .Mc n∨own q= .saved n∨own q= .parts n) w2 w6:=((k24.mono (T:=fun q=> own q= .Mc n∨own q= .saved n∨own q= .parts n) fun q hq=> hq.elim .inl fun e=> .inr (.inl e)).trans (Ab.Ai b45 (Nat.le_refl _))).trans (k56.mono fun q hq=> .inr (.inr (by rw [hq];exact hgb)))
 have k46:Ab (fun q=> q=gb) w4 w6:=(Ab.Ai b45 (Nat.le_refl _)).trans k56
 have hri:=hr.in_
 have hgb2:=hlt2 gb (by rw [hgb];simp)
 have hr6:Wh own1 w6 w0.heap.size ob vs (Ko o.fold o.early o.slices (Bf o.rs o.fold (Aq o i))):=by
  refine⟨(hr.B6 (by have:=h2.E5.size;omega)).Aa3 k56 (by omega) fun v hv q hq=> ?_,hfx ob hri.1.1 hri.1.2,fun v hv q hq=> ?_⟩
  ·have:=hri.2 v hv q hq;omega
  ·have:=hri.2 v hv q hq;exact hfx q this.1 this.2
 have hpo5:Own 2 Ew 133 w5 w0.heap.size g.pv g.pl:=(Ab.Ai (S:=fun _=> False) b45 (Nat.le_refl _)).own (k24.own hc.pt.po fun q hq=> by rw [hc.pt.op q hq];simp) fun _ _=> id
 have hpo6:Own 2 Ew 133 w6 w0.heap.size g.pv (g.pl.set i (lv, .slice (some ⟨ob,0,none⟩) o.slices o.slices)):=by
  rw [hpv] at hpo5 ⊢
  rw [hw6]
  exact hpo5.Pv Jt hpl (by decide) rfl
 have hdone:=(hc.re ha).Apj (ob:=ob) (vs:=vs) (wk:=wk) hp hpl k26 (fun q hq=> by rcases hq with x | x | x <;> rw [e x (by simp)] <;> simp) (rt4.kept k46 (by rintro rfl;rw [hc.tk.ot.1] at hgb;cases hgb) (by rintro rfl;rw [hc.tk.ot.2.1] at hgb;cases hgb) (by rintro rfl;rw [hc.tk.ot.2.2] at hgb;cases hgb)) (m4.kept k46 (by rintro rfl;rw [hc.sv.om] at hgb;cases hgb)) hpo6 hr6
 have hf:=h2.Aqa (F':=setOf F1 (n,false,i) (E3 wk)) ha hl k26 (fun q hq=> by rcases hq with x | x | x <;> simp [x]) hg ho hdone ⟨rfl,rfl,rfl,rfl,rfl⟩ (Ed.A5 o false i (E3 wk)) rfl rfl rfl (Ht _ ho)
 rw [←hw6]
 refine⟨⟨own1,_,hf,hfb,fun q hq=> ?_⟩,kw.trans (k26.mono fun q hq=> by rcases hq with x | x | x <;> rw [x] <;> simp)⟩
 have:=kw.size
 rw [hown1];exact Ch (by omega)
theorem Ahc {w2 w4 w5:World} {G2:Bg} {F1:Ad} {i:Nat} {p:As} {wk:Int} {s:ByteArray} (kw:Ab (fun q=> own q≠ .out) w w2) (hfb:G2.fb=G.fb) (h2:B8 w0 w2 own G2 F1) (hg:G2.jg[n]?=some g) (ho:F1.Af[n]?=some o) (hp:o.Bw[i]?=some p) (hs:o.out[i]?=some s)
 (k24:Ab (fun q=> own q= .Mc n∨own q= .saved n) w2 w4) (rt4:RT w4 w0.heap.size g.tb g.pb g.sb (L3 true (o.parts.map J6) i (2,wk)) (Ic true (o.Bw.map J6) i (2,wk))) (m4:Ds w4 Tryz.prog 33 g.mb (M8 g.sf (C9 (n,true,i)) none)) (b45:Below w4.heap.size w4 w5) (hi:i < g.os.length):
 Ab (fun q=> own q≠ .out) w (w5.setCell ⟨g.ob,i,none⟩ (.string s))∧∃ G3,B8 w0 (w5.setCell ⟨g.ob,i,none⟩ (.string s)) own G3 (setOf F1 (n,true,i) (E3 wk))∧G3.fb=G.fb:=by
 obtain⟨w6,hw6⟩:∃ w6,w6=w5.setCell ⟨g.ob,i,none⟩ (.string s):=⟨_,rfl⟩
 have hc:=h2.js n g o hg ho
 have hob:=hc.os.oo
 have k56:Ab (fun q=> q=g.ob) w5 w6:=by rw [hw6];exact(Ab.refl (fun q=> q=g.ob) w5).setCell (p:=⟨g.ob,i,none⟩) rfl _
 have k26:Ab (fun q=> own q= .Mc n∨own q= .saved n∨own q= .outs n) w2 w6:=((k24.mono (T:=fun q=> own q= .Mc n∨own q= .saved n∨own q= .outs n) fun q hq=> hq.elim .inl fun e=> .inr (.inl e)).trans (Ab.Ai b45 (Nat.le_refl _))).trans (k56.mono fun q hq=> .inr (.inr (by rw [hq];exact hob)))
 have k46:Ab (fun q=> q=g.ob) w4 w6:=(Ab.Ai b45 (Nat.le_refl _)).trans k56
 have hos5:Own 1 Cm 9 w5 w0.heap.size (.slice (some ⟨g.ob,0,none⟩) o.slices o.slices) g.os:=(Ab.Ai (S:=fun _=> False) b45 (Nat.le_refl _)).own (k24.own hc.os.os fun q hq=> by cases hq;rw [hob];simp) fun _ _=> id
 have hos6:Own 1 Cm 9 w6 w0.heap.size (.slice (some ⟨g.ob,0,none⟩) o.slices o.slices) (g.os.set i s):=by
  rw [hw6]
  have:=hos5.Pv (k:=i) (x:=g.os[i]) (j:=0) (y:=s) (u:= .string s) Cc (List.getElem?_eq_getElem hi) (by decide) rfl
  simpa using this
 have hdone:=hc.Api (wk:=wk) hp hs k26 (fun q hq=> hq) (rt4.kept k46 (by rintro e;rw [←e,hc.tk.ot.1] at hob;cases hob) (by rintro e;rw [←e,hc.tk.ot.2.1] at hob;cases hob) (by rintro e;rw [←e,hc.tk.ot.2.2] at hob;cases hob)) (m4.kept k46 (by rintro e;rw [←e,hc.sv.om] at hob;cases hob)) hos6 hi
 have hf:=h2.job (F':=setOf F1 (n,true,i) (E3 wk)) k26 (fun q hq=> by rcases hq with x | x | x <;> simp [x]) hg ho hdone ⟨rfl,rfl,rfl,rfl,rfl⟩ (Ed.A5 o true i (E3 wk)) rfl rfl rfl (Ht _ ho)
 rw [←hw6]
 exact⟨kw.trans (k26.mono fun q hq=> by rcases hq with x | x | x <;> rw [x] <;> simp),_,hf,hfb⟩
end
end Go.Proofs.YtbibeionenjmfaaGreatDoor
namespace Go.Proofs.YtbibeionenjmfaaGreatDoor
open Go.RowKit
theorem Akf {s:List UInt8} {rv:List Aw} {fold slices:Int} {early:Bool} (h:Dv rv fold slices=0) (hs:s=Ke rv fold slices early) (hl:s.length≤800):Nu s=some (rv,fold,slices.toNat,early):=by
 unfold Nu
 have hr:Dl s=(rv,fold,slices,early,false):=by rw [hs];exact Lv h
 rw [hr,if_pos ⟨hl,rfl,h,hs.symm⟩]
theorem Ams {s:List UInt8} (h:∀ rv fold slices early,Dv rv fold slices=0→s=Ke rv fold slices early→800 < s.length):Nu s=none:=by
 unfold Nu
 refine if_neg ?_
 rintro⟨h1,h2,h3,h4⟩
 have:=h _ _ _ _ h3 h4.symm
 omega
theorem Anj (s:List UInt8):N6 s=Jf s:=rfl
theorem Ank (s:List UInt8):Mw s=Jg s:=rfl
theorem Apa {s:List UInt8} (h:Jf s=0):(Jg s).length≤60∧∀ l∈Jg s,l.length≤120:=by
 by_cases hs:s= []
 ·subst hs
  unfold Jg
  rw [if_pos (.inl rfl)]
  exact⟨Nat.zero_le _,fun l hl=> by cases hl⟩
 ·unfold Jg
  rw [if_neg (by rintro(e | e);exact hs e;exact e h)]
  unfold Jf at h
  rw [if_neg hs] at h
  split at h
  ·cases h
  ·split at h
   ·cases h
   ·split at h
    ·cases h
    ·rename_i h2 h3
     refine⟨by omega,fun l hl=> ?_⟩
     rcases Nat.lt_or_ge 120 l.length with h4 | h4
     ·exact absurd (List.any_eq_true.2 ⟨l,hl,by simpa using h4⟩) h3
     ·exact h4
theorem Oa.bd {S:Nat→Prop} {w:World} {ro:Option Addr} {rs:List Ao} (h:Oa S w ro rs):Oa (fun q=> S q∧q < w.heap.size) w ro rs:=
 ⟨h.sl,fun b o e=> ⟨h.bl b o e,(h.bl b o e).2⟩,fun r hr t ht=> (h.ts r hr t ht).bound,h.C1⟩
def Mv (ao:Option Addr) (n size k:Nat):List (Value×Value):=(E0 ao n size k).map fun c=> (chV c, .slice none 0 0)
theorem Z7 {ao:Option Addr} {w:World} {o:Ba} (h:Sl 1 Cm w ao o.lines) {i:Nat} {lv ov:Value} (hi:(Mv ao o.lines.length o.size (Bs o.lines.length o.size))[i]?=some (lv,ov)) (hs:1≤o.size):
 ∃ la lc,lv= .slice la (Aq o i).length lc∧Sl 1 Cm w la (Aq o i)∧(la=none→lc=0)∧∀ b off,la=some ⟨b,off,none⟩→∃ off0,ao=some ⟨b,off0,none⟩:=by
 unfold Mv E0 at hi
 rw [List.getElem?_map,List.getElem?_map] at hi
 obtain⟨c,hc,he⟩:=Option.map_eq_some_iff.1 hi
 obtain⟨j,hj,rfl⟩:=Option.map_eq_some_iff.1 hc
 have hj2:=List.getElem?_eq_some_iff.1 hj
 obtain⟨hlt,rfl⟩:=hj2
 rw [List.length_range] at hlt
 rw [List.getElem_range] at he
 have hin:=(Lr (n:=o.lines.length) (k:=i) hs).2 hlt
 obtain⟨b,off,rfl,_,_⟩:=h (by omega)
 have hm:min o.size (o.lines.length - i * o.size)=(Aq o i).length:=by rw [Cr];rfl
 have e1:=(Prod.ext_iff.1 he).1
 unfold chV Qi at e1
 simp only [Option.map_some] at e1
 rw [hm] at e1
 refine⟨_,_,e1.symm,?_,fun e=> (by cases e),fun b' off' e=> ?_⟩
 ·have h1:=(h.An6 (i * o.size)).Apx o.size
  rw [Nat.mul_one] at h1
  exact h1
 ·injection e with e
  injection e with e1 e2
  subst e1
  exact⟨off,rfl⟩
section
variable {w0 w w1:World} {own own1:Nat→Ez} {G:Bg} {F:Ad} {g:Ec} {o:Ba}
theorem B8.Aoj {jv':Value} (h:B8 w0 w own G F) (hc:Fh w0 w own F.Af.length g o) (k:Ab (fun q=> own q= .Af) w w1) (jo':Own 1 Of 92 w1 w0.heap.size jv' ((G.jg++ [g]).map Ec.xb))
 (ha:∀ q,own q≠ .out→own1 q=own q) (hl:∀ q,own1 q≠ .out→w0.heap.size≤q∧q < w1.heap.size) (hj:∀ q,jv'.ownBlock=some q→own1 q= .Af):
 B8 w0 (w1.setCell ⟨G.fb,3,none⟩ jv') own1 {G with jv:=jv',jg:=G.jg++ [g]} {F with Af:=F.Af++ [o]}:=by
 have e:∀ {q:Nat} {c:Ez},own q=c→c≠ .out→own1 q=c:=fun {q c} hq hc=> (ha q (by rw [hq];exact hc)).trans hq
 have ks:Ab (fun q=> q=G.fb) w1 (w1.setCell ⟨G.fb,3,none⟩ jv'):=(Ab.refl (fun q=> q=G.fb) w1).setCell (p:=⟨G.fb,3,none⟩) rfl jv'
 have hsz:(w1.setCell ⟨G.fb,3,none⟩ jv').heap.size=w1.heap.size:=by simp [World.setCell]
 have k2:Ab (fun q=> own q= .Af∨own q= .hd) w (w1.setCell ⟨G.fb,3,none⟩ jv'):=(k.mono fun q hq=> .inl hq).trans (ks.mono fun q hq=> .inr (by rw [hq];exact h.oh))
 have hno:∀ {q:Nat} {c:Ez},own q=c→c≠ .Af→c≠ .hd→¬ (own q= .Af∨own q= .hd):=fun {q c} hq h1 h2 ht=> by
  rcases ht with e | e <;> rw [e] at hq
  ·exact h1 hq.symm
  ·exact h2 hq.symm
 have hlo:∀ q,(own q= .Af∨own q= .hd)→w0.heap.size≤q:=fun q hq=> (h.lo q (by rcases hq with e | e <;> rw [e] <;> simp)).1
 exact {
  gw:=h.gw
  E5:=h.E5.trans (k2.below hlo h.E5.size)
  lo:=fun q hq=> by rw [hsz];exact hl q hq
  bk:=by
   have h1:=h.bk.kept k (by rw [h.oh];simp)
   exact h1.set (k:=3) (u:=G.jv) jv' rfl
  oh:=e h.oh (by simp)
  qs:=h.qs.kept k2 fun b o e1=> hno (h.oq b o e1) (by simp) (by simp)
  oq:=fun b o e1=> e (h.oq b o e1) (by simp)
  bt:=h.bt.kept k2 (hno h.ob.1 (by simp) (by simp)) (hno h.ob.2.1 (by simp) (by simp)) fun i r hr=> hno (h.ob.2.2 r (List.mem_of_getElem? hr)) (by simp) (by simp)
  ob:=⟨e h.ob.1 (by simp),e h.ob.2.1 (by simp),fun r hr=> e (h.ob.2.2 r hr) (by simp)⟩
  rn:=h.rn.kept k2 (hno h.P8 (by simp) (by simp))
  P8:=e h.P8 (by simp)
  rd:=h.rd
  rr:=fun a b t h1 h2=> by
   obtain⟨v,g0,o0,x1,x2,x3,x4⟩:=h.rr a b t h1 h2
   refine⟨v,g0,o0,x1,?_,?_,(x4.kept k2 fun q hq=> ?_).re ha⟩
   ·exact(List.getElem?_append_left (List.getElem?_eq_some_iff.1 x2).1).trans x2
   ·exact(List.getElem?_append_left (List.getElem?_eq_some_iff.1 x3).1).trans x3
   ·rcases hq with e | e <;> rw [e] <;> simp
  jo:=ks.own jo' fun q hq e2=> by
   have h1:=hj q hq
   rw [e2,e h.oh (by simp)] at h1
   cases h1
  oj:=hj
  jn:=by simp [h.jn]
  js:=fun m g1 o1 h1 h2=> by
   by_cases hm:m < F.Af.length
   ·have h1':G.jg[m]?=some g1:=by rw [←h1];exact(List.getElem?_append_left (by rw [h.jn];exact hm)).symm
    have h2':F.Af[m]?=some o1:=by rw [←h2];exact(List.getElem?_append_left hm).symm
    refine((h.js m g1 o1 h1' h2').kept k2 fun q hq=> ?_).re ha
    rcases hq with e | e <;> rw [e] <;> simp
   ·have hm2:m=F.Af.length:=by
     have:=(List.getElem?_eq_some_iff.1 h2).1
     simp at this
     omega
    subst hm2
    have e1:g1=g:=by
     have h3:(G.jg++ [g])[F.Af.length]?=some g1:=h1
     rw [←h.jn] at h3
     simpa using h3.symm
    have e2:o1=o:=by
     have h3:(F.Af++ [o])[F.Af.length]?=some o1:=h2
     simpa using h3.symm
    subst e1 e2
    refine(hc.kept k2 fun q hq=> ?_).re ha
    rcases hq with e | e <;> rw [e] <;> simp}
end
end Go.Proofs.YtbibeionenjmfaaGreatDoor
namespace Go.Proofs.YtbibeionenjmfaaGreatDoor
open Go.RowKit
theorem Ma {α β:Type} (f:Nat→α) (g:α→β) (c:β) (n:Nat) (h:∀ i,g (f i)=c):((List.range n).map f).map g=List.replicate n c:=by
 apply List.ext_getElem?
 intro i
 rw [List.getElem?_map,List.getElem?_map,List.getElem?_replicate]
 by_cases hi:i < n
 ·rw [List.getElem?_range hi,if_pos hi,Option.map_some,Option.map_some,h]
 ·rw [if_neg hi,List.getElem?_eq_none (by simp;omega)];rfl
theorem Am5 {w0 W:World} {own:Nat→Ez} {n xb ob mb kb kpb ksb nb qn sn sz:Nat} {ro lo:Option Addr} {rc:Nat} {rs:List Ao} {fold:Int} {early:Bool} {va:Option Addr} {vc:Nat} {lines:List ByteArray}
 (hxb:Bk W xb [.int .i64 qn, .slice ro rs.length rc, .int .i64 fold, .bool early, .int .i64 sn, .pointer (some ⟨kb,0,none⟩), .slice va (Bs lines.length sz) vc, .slice (some ⟨ob,0,none⟩) sn sn, .map (some mb)])
 (hrt:RT W w0.heap.size kb kpb ksb (List.replicate (Bs lines.length sz) (0,0)) (List.replicate sn (0,0)))
 (hpo:Own 2 Ew 133 W w0.heap.size (.slice va (Bs lines.length sz) vc) (Mv lo lines.length sz (Bs lines.length sz)))
 (hos:Own 1 Cm 9 W w0.heap.size (.slice (some ⟨ob,0,none⟩) sn sn) (List.replicate sn ⟨#[]⟩)) (hmp:Ds W Tryz.prog 33 mb fun _=> none)
 (hjs:Oa (fun q=> own q= .Kq∧q < nb) W ro rs) (hnb:nb≤W.heap.size) (hsl:Sl 1 Cm W lo lines) (hsz:1≤sz)
 (o1:own xb= .one n) (o2:own kb= .Mc n∧own kpb= .Mc n∧own ksb= .Mc n) (o3:∀ q,(Value.slice va (Bs lines.length sz) vc).ownBlock=some q→own q= .parts n) (o4:own ob= .outs n) (o5:own mb= .saved n) (o6:∀ b o,lo=some ⟨b,o,none⟩→own b= .Kq):
 Fh w0 W own n ⟨xb,ro,rc,rs,nb,kb,kpb,ksb, .slice va (Bs lines.length sz) vc,Mv lo lines.length sz (Bs lines.length sz),ob,List.replicate sn ⟨#[]⟩,mb,fun _=> none⟩ (Dq qn (rs.map Ao.v) fold sn early lines sz) where
 hd:=⟨hxb,o1,hjs,rfl,hnb⟩
 tk:=⟨by
  have e1:((Dq qn (rs.map Ao.v) fold sn early lines sz).parts.map J6)=List.replicate (Bs lines.length sz) (0,0):=Ma _ J6 (0,0) _ fun i=> rfl
  have e2:((Dq qn (rs.map Ao.v) fold sn early lines sz).Bw.map J6)=List.replicate sn (0,0):=Ma _ J6 (0,0) _ fun i=> rfl
  rw [e1,e2]
  exact hrt,o2⟩
 pt:={
  po:=hpo
  op:=o3
  pn:=by unfold Mv Dq;rw [List.length_map,Lj,List.length_map,List.length_range];rfl
  li:=fun i lv ov hi=> by
   obtain⟨la,lc,e,h1,h2,h3⟩:=Z7 (o:=Dq qn (rs.map Ao.v) fold sn early lines sz) hsl hi hsz
   exact⟨la,lc,e,h1,h2,fun b off e2=> by obtain⟨off0,e3⟩:=h3 b off e2;exact o6 b off0 e3⟩
  mp:=fun i p lv ov hp _ h2=> by
   have hp':=hp
   unfold Dq at hp'
   dsimp only at hp'
   rw [List.getElem?_map] at hp'
   obtain⟨j,_,rfl⟩:=Option.map_eq_some_iff.1 hp'
   cases h2}
 os:=⟨hos,o4,by simp [Dq],fun i p hp h2=> by
    have hp':=hp
    unfold Dq at hp'
    dsimp only at hp'
    rw [List.getElem?_map] at hp'
    obtain⟨j,_,rfl⟩:=Option.map_eq_some_iff.1 hp'
    cases h2⟩
 sv:=⟨hmp,o5,fun fo i p hp=> by
    have hs:p.saved= -1:=by
     unfold Eb Dq at hp
     cases fo
     ·simp only [Bool.false_eq_true,if_false] at hp
      rw [List.getElem?_map] at hp
      obtain⟨j,_,rfl⟩:=Option.map_eq_some_iff.1 hp
      rfl
     ·simp only [if_true] at hp
      rw [List.getElem?_map] at hp
      obtain⟨j,_,rfl⟩:=Option.map_eq_some_iff.1 hp
      rfl
    exact⟨fun _=> rfl,fun h=> by omega⟩,fun x hx=> absurd rfl hx⟩
def Mu (own:Nat→Ez) (N N2 n xb ob mb:Nat) (pb:Option Nat) (kb kpb ksb:Nat):Nat→Ez:=fun q=>
 if q < N then own q else if q < N2 then .Kq else if q=xb then .one n else if q=ob then .outs n else if q=mb then .saved n else if pb=some q then .parts n else if q=kb∨q=kpb∨q=ksb then .Mc n else .out
end Go.Proofs.YtbibeionenjmfaaGreatDoor
namespace Go.Proofs.YtbibeionenjmfaaGreatDoor
open Go.RowKit
def Yz (ops:Array Oper):Bool:=ops.toList.all fun o=> match o.op with
 | .defer _=> false
 | _=> true
section
variable {P:Program} {ops:Array Oper} {md:Region.Mode} {Q:Exit→Act→World→Prop}
theorem Abw {F:Fence} (hF:Machine.fenced P F=Machine.fenced P Fence.wide) {n:Nat} {row:String} {args:Array Value} {w:World} {R:Value→World→Prop} (h:Rows P row args w R):RowsIn F n P row args w R:=fun c cs _=> by
 obtain⟨v,w',r,s⟩:=h c cs
 refine⟨v,w',r,?_⟩
 rw [hF]
 exact stepsIn_wide.2 s
theorem Vi {l n:Nat} {o:Oper} {a:Act} {K K':Act→World→Prop} (hK:∀ a w,K a w→K' a w) {r:Result Next} (h:o.upon P a K Q r):o.uponIn (Fence.wide.inRound l) n P a K' Q r:=by
 unfold Oper.upon at h
 unfold Oper.uponIn
 split at h
 ·exact hK _ _ h
 ·exact hK _ _ h
 ·exact hK _ _ h
 ·refine⟨fun e=> (by cases e),CallsIn.inRound l (callsIn_wide.2 (h.mono fun e w' he=> ?_))⟩
  cases e with
  | returned v=> exact hK _ _ he
  | panicked chain=> exact he
  | outgrown=> exact he
 ·refine⟨fun e=> (by cases e),?_⟩
  obtain h2:Rows P _ _ _ fun v w''=> K' (a.put o.dst v) w'':=h.mono fun v w' hv=> hK _ _ hv
  exact Abw rfl h2
 ·exact h
 ·exact h.elim
theorem Vm {l n i:Nat} {a:Act} {w:World} {K K':Act→World→Prop} (hd:Yz ops=true) (hQ:¬ LetsOut Q) (hK:∀ a w,K a w→K' a w) (h:wpOp P ops Q i K a w):wpOpIn (Fence.wide.inRound l) n P ops Q i K' a w:=by
 unfold wpOp at h
 unfold wpOpIn
 cases ho:ops[i]? with
 | none=> rw [ho] at h;exact hK _ _ h
 | some o=>
   rw [ho] at h
   dsimp only at h ⊢
   split at h
   ·rename_i hw
    rw [if_pos hw]
    rcases h with h | h
    ·refine⟨fun _ _=> trivial,?_⟩
     have hnd:∀ c,o.op≠ .defer c:=fun c e=> by
      have:=List.all_eq_true.1 hd o (Array.mem_toList_iff.2 (Array.mem_of_getElem? ho))
      rw [e] at this
      cases this
     rw [Fence.inRound_round,Oper.semAt_some l a.eval o hnd]
     exact Vi hK h
    ·exact absurd h.2 hQ
   ·rename_i hw
    rw [if_neg hw]
    exact⟨fun _ _=> trivial,hK _ _ h⟩
theorem Lb {l n:Nat} (hd:Yz ops=true) (hQ:¬ LetsOut Q):∀ (fuel:Nat) (listed:Array Bool) (a:Act) (w:World),wpAny P md ops Q fuel listed a w→wpAnyIn (Fence.wide.inRound l) n P md ops Q fuel listed a w
 | 0,_,_,_,h=> h
 | fuel+1,listed,a,w,h=> ⟨h.1,fun i hi=> Vm hd hQ (fun a w=> Lb hd hQ fuel _ a w) (h.2 i hi)⟩
theorem Lc {l n:Nat} {S:World→Prop} {E:List Nat} {id:Nat} {a:Act} {w:World} (hm:P.follows .mixedOrders=true) (hd:Yz ops=true) (hQ:¬ LetsOut Q) (hS:S w.drew)
 (h:S w.drew→Cw P .any ops Q S E ops.size (Array.replicate ops.size false) a w.drew):(Code.region id ops true).wpIn (Fence.wide.inRound l) n P Q a w:=
 wpIn_region_any hm (Lb hd hQ _ _ _ _ (Nc _ _ _ _ (h hS)))
theorem Hi {n:Nat} {fn:Func} {R:Ending→World→Prop} {a:Act} {w:World} {v:Value} (hr:(results fn a.tmps).run P w= .ok v w) (hd:a.defers= []) (h:R (.returned v) w):bodyPostM Fence.wide n P fn R .ret a w:=by
 show LeavesInM Fence.wide n P fn a.tmps R a.defers .returning w
 rw [hd]
 exact⟨v,hr,h⟩
theorem Ac1 {n D:Nat} {fn:Func} {R:Ending→World→Prop} {a:Act} {w:World} {v:Value} (hd:a.defers= [{target:= .collected D,args:= #[]}]) (hD:w.heap[D]?=some (.deferred (some []))) (hr:(results fn a.tmps).run P (w.putObj D (.deferred none))= .ok v (w.putObj D (.deferred none))) (h:R (.returned v) (w.putObj D (.deferred none))):bodyPostM Fence.wide n P fn R .ret a w:=by
 show LeavesInM Fence.wide n P fn a.tmps R a.defers .returning w
 rw [hd]
 exact⟨by simp, .inl ⟨D,_,rfl,run_takeDeferred hD,v,hr,h⟩⟩
end
end Go.Proofs.YtbibeionenjmfaaGreatDoor
namespace Go.Proofs.YtbibeionenjmfaaGreatDoor
open Go.RowKit
attribute [local go_sem] Oper.semAt_some
theorem Ahm:(Tryz.prog.info? 133).map (fun i=> (i.zero,i.size,i.bytes))=some (some (.agg #[.slice none 0 0, .slice none 0 0]),2,48):=by kernel_rfl
theorem Uk {n size:Nat} (hs:1≤size):Bs n size≤n:=by
 rcases Nat.lt_or_ge n (Bs n size) with h | h
 ·have h1:=(Lr (n:=n) (k:=n) hs).2 h
  have h2:n * 1≤n * size:=Nat.mul_le_mul_left _ hs
  omega
 ·exact h
theorem Adn:(Tryz.prog.info? 92).map (fun i=> (i.zero,i.size,i.bytes))=some (some (.pointer none),1,8):=by kernel_rfl
structure Ob (w2 wc:World) (tb xb ob mb:Nat) (q:Nat) (ro:Option Addr) (rn rc:Nat) (fold:Int) (early:Bool) (sn:Nat):Prop where
 bt:Bk wc tb [.pointer (some ⟨xb,0,none⟩)]
 bx:Bk wc xb [.int .i64 q, .slice ro rn rc, .int .i64 fold, .bool early, .int .i64 sn, .pointer none, .slice none 0 0, .slice (some ⟨ob,0,none⟩) sn sn, .map (some mb)]
 os:Own 1 Cm 9 wc w2.heap.size (.slice (some ⟨ob,0,none⟩) sn sn) (List.replicate sn ⟨#[]⟩)
 mp:Ds wc Tryz.prog 33 mb fun _=> none
 lo:w2.heap.size≤tb∧w2.heap.size≤xb∧w2.heap.size≤ob∧w2.heap.size≤mb
 ne:tb≠xb∧tb≠ob∧tb≠mb∧xb≠ob∧xb≠mb∧ob≠mb
 bl:Below w2.heap.size w2 wc
theorem Ob.later {w2 wc wd:World} {tb xb ob mb q:Nat} {ro:Option Addr} {rn rc:Nat} {fold:Int} {early:Bool} {sn:Nat} (h:Ob w2 wc tb xb ob mb q ro rn rc fold early sn) (b:Below wc.heap.size wc wd):Ob w2 wd tb xb ob mb q ro rn rc fold early sn:=
 ⟨h.bt.later b,h.bx.later b,h.os.later b,h.mp.kept (Ab.Ai (S:=fun _=> False) b (Nat.le_refl _)) id,h.lo,h.ne,h.bl.trans (b.mono h.bl.size)⟩
theorem Ob.I7 {w2 wc:World} {tb xb ob mb q:Nat} {ro:Option Addr} {rn rc:Nat} {fold:Int} {early:Bool} {sn:Nat} (h:Ob w2 wc tb xb ob mb q ro rn rc fold early sn):Ob w2 wc.drew tb xb ob mb q ro rn rc fold early sn:=
 ⟨h.bt,h.bx,h.os,h.mp,h.lo,h.ne,h.bl.drew⟩
theorem Bk.newAt {w:World} {cs:Array Value} {t:TypeId} {l:List Value} {n:Nat} (hn:n=w.heap.size) (hl:cs.toList=l):Bk (w.alloc (.cells cs t)) n l:=by
 subst hn;exact Bk.new hl
theorem Ib {w:World} {n sn base:Nat} (hn:n=w.heap.size) (hb:base≤w.heap.size) (hs:sn≤4):Own 1 Cm 9 (w.alloc (.cells (madeCells #[.string ⟨#[]⟩] sn) 9)) base (.slice (some ⟨n,0,none⟩) sn sn) (List.replicate sn ⟨#[]⟩):=by
 subst hn
 have:=Own.lit (base:=base) (l:=List.replicate sn (⟨#[]⟩:ByteArray)) (enc:=Cm) (sz:=1) (e:=9) Cc (B3 w (.cells (madeCells #[.string ⟨#[]⟩] sn) 9)) hb (by have:=El Cc (.string ⟨#[]⟩) (⟨#[]⟩:ByteArray) rfl sn rfl;simpa [Value.cells] using this) (by simp;unfold maxLen;omega)
 simpa using this
theorem Gt {w:World} {n:Nat} (hn:n=w.heap.size):Ds (w.alloc (.map #[] 0)) Tryz.prog 33 n fun _=> none:=by
 subst hn;exact Ds.made w _ _
theorem Ds.alloc {w:World} {P:Program} {k:TypeId} {b:Nat} {f:Value→Option Value} (h:Ds w P k b f) (o:Obj):Ds (w.alloc o) P k b f:=h.kept (Ab.Ai (S:=fun _=> False) (ba w o) (Nat.le_refl _)) id
theorem Sa {W:World} {l:Nat} {o':Obj} {a:Addr} (h:a.block≠l):(W.putObj l o').cell? a=W.cell? a:=World.cell?_of_block (World.putObj_heap_other h)
theorem P9.trans {B1 B2:Nat} {A B C:World} (h:P9 B1 B2 A B) (k:P9 B1 B2 B C):P9 B1 B2 A C:=⟨k.1.trans h.1,k.2.trans h.2⟩
theorem Own.cells {α:Type} {sz:Nat} {enc:α→List Value} {e:TypeId} {w:World} {base:Nat} {v:Value} {l:List α} (h:Own sz enc e w base v l) {q:Nat} (hq:v.ownBlock=some q):∃ o:Obj,w.heap[q]?=some o∧o.isCells=true:=by
 obtain⟨_,hl,hh⟩:=h
 rcases hh with ⟨rfl,_⟩ | ⟨g,cap,cur,rfl,hb,hg,_⟩
 ·cases hq
 ·cases hq
  exact⟨_,hg,rfl⟩
def partOf (c:ChV):Value×Value:=(chV c, .slice none 0 0)
def Acx (W4:World) (xb:Nat) (A:Value→List Value) (pre:List ChV) (W:World):Prop:=
 ∃ v,Bk W xb (A v)∧Own 2 Ew 133 W W4.heap.size v (pre.map partOf)∧Ab (fun q=> q=xb) W4 W
theorem Acx.own {W4:World} {xb:Nat} {A:Value→List Value} (hx:xb < W4.heap.size):OwnFrom W4.heap.size (Acx W4 xb A):=fun s W W' row hs hg hr=> by
 obtain⟨v,h1,h2,h3⟩:=hs
 have k:Ab (fun q=> row=some q) W W':=Ab.A9 hg fun q e=> e
 refine⟨v,h1.kept k fun e=> ?_,k.own h2 fun q hq e=> ?_,⟨hg.os.trans h3.os,hg.tape.trans h3.tape,hg.output.trans h3.output,Nat.le_trans h3.size hg.size,fun i hi hne=> ?_⟩⟩
 ·have:=(hr xb e).1;omega
 ·obtain⟨_,o,ho,hc⟩:=hr q e
  obtain⟨o2,ho2,hc2⟩:=h2.cells hq
  rw [ho] at ho2
  cases ho2
  rw [hc] at hc2
  cases hc2
 ·refine(hg.block i (Nat.lt_of_lt_of_le hi h3.size) fun e=> ?_).trans (h3.block i hi hne)
  have:=(hr i e.symm).1;omega
theorem Acx.round {W4 W w7:World} {xb B1 B2:Nat} {A:Value→List Value} {pre:List ChV} {x:ChV} {v v' u:Value} (hx:xb < W4.heap.size) (hB1:B1 < W4.heap.size∧B1≠xb) (hB2:B2 < W4.heap.size∧B2≠xb) (hA:∀ a b,A b=(A a).set 6 b) (hA6:∀ a,(A a)[6]?=some a)
 (h1:Bk W xb (A v)) (h2:Own 2 Ew 133 W W4.heap.size v (pre.map partOf)) (h3:Ab (fun q=> q=xb) W4 W) {Wa:World} (ba:Below W.heap.size W Wa) (ho:Own 2 Ew 133 w7 W4.heap.size v' (pre.map partOf++ [partOf x])) (hg:Wa.grownBy w7 v.ownBlock) (hnc:∀ (k:Nat) (o:Obj),W.heap[k]?=some o→o.isCells=false→Wa.heap[k]?=some o):
 KeepsFrom W4.heap.size W (w7.setCell ⟨xb,6,none⟩ v')∧P9 B1 B2 W (w7.setCell ⟨xb,6,none⟩ v')∧Acx W4 xb A (pre++ [x]) (w7.setCell ⟨xb,6,none⟩ v'):=by
 have hlt:=fun q (hq:v.ownBlock=some q)=> h2.lt q hq
 have ka:Ab (fun q=> v.ownBlock=some q) W w7:=(Ab.Ai ba (Nat.le_refl _)).trans (Ab.A9 hg fun q e=> e)
 have ks:Ab (fun q=> q=xb) w7 (w7.setCell ⟨xb,6,none⟩ v'):=(Ab.refl (fun q=> q=xb) w7).setCell (p:=⟨xb,6,none⟩) rfl v'
 have k2:Ab (fun q=> v.ownBlock=some q∨q=xb) W (w7.setCell ⟨xb,6,none⟩ v'):=(ka.mono fun q hq=> .inl hq).trans (ks.mono fun q hq=> .inr hq)
 have hcell:∀ b,b < W4.heap.size→b≠xb→(w7.setCell ⟨xb,6,none⟩ v').cell? ⟨b,0,none⟩=W.cell? ⟨b,0,none⟩:=fun b hb hne=> World.cell?_of_block (k2.block b (Nat.lt_of_lt_of_le hb h3.size) fun e=> e.elim (fun e=> by have:=(hlt b e).1;omega) hne)
 refine⟨⟨k2.size,fun k o hB hk ho2=> ?_⟩,⟨hcell B1 hB1.1 hB1.2,hcell B2 hB2.1 hB2.2⟩,v',?_,?_,?_⟩
 ·have hkl:=(Array.getElem?_eq_some_iff.1 hk).1
  rw [k2.block k hkl ?_]
  ·exact hk
  ·rintro(e | e)
   ·obtain⟨o3,h4,h5⟩:=h2.cells e
    rw [hk] at h4
    cases h4
    rw [ho2] at h5;cases h5
   ·omega
 ·have hb1:=h1.kept ka fun e=> by have:=(hlt xb e).1;omega
  have:=hb1.set (k:=6) (u:=v) v' (hA6 v)
  rw [←hA] at this
  exact this
 ·rw [List.map_append]
  exact ks.own ho fun q hq e=> by have:=(ho.lt q hq).1;omega
 ·refine⟨k2.os.trans h3.os,k2.tape.trans h3.tape,k2.output.trans h3.output,Nat.le_trans h3.size k2.size,fun i hi hne=> ?_⟩
  exact(k2.block i (Nat.lt_of_lt_of_le hi h3.size) fun e=> e.elim (fun e=> by have:=(hlt i e).1;omega) hne).trans (h3.block i hi hne)
section
variable {w0 w w':World} {own:Nat→Ez} {G:Bg} {F F':Ad}
theorem Ab.more {S T:Nat→Prop} {w w' w'':World} (h:Ab S w w') (k:Ab T w' w'') (hT:∀ q,T q→S q∨w.heap.size≤q):Ab S w w'':=
 ⟨k.os.trans h.os,k.tape.trans h.tape,k.output.trans h.output,Nat.le_trans h.size k.size,fun i hi hS=> (k.block i (Nat.lt_of_lt_of_le hi h.size) fun e=> (hT i e).elim hS fun e=> by omega).trans (h.block i hi hS)⟩
theorem Ab.put (w:World) (l:Nat) (o:Obj):Ab (fun q=> q=l) w (w.putObj l o):=⟨rfl,rfl,rfl,by simp,fun k _ hk=> World.putObj_heap_other hk⟩
theorem Alk {own':Nat→Ez} {W6 w7:World} {g:Ec} {o:Ba} {D:Nat} {v':Value} {n6:Nat} (HH:B8 w0 w own G F) (hb:Below w.heap.size w W6) (h6:B8 w0 W6 own' G F) (hc:Fh w0 W6 own' F.Af.length g o) (hold:∀ q,q < w.heap.size→own' q=own q)
 (oD:own' D= .out) (hDg:w.heap.size≤D) (hDl:D < W6.heap.size) (hj:∀ q,G.jv.ownBlock=some q→own' q= .Af) (k67:Ab (fun q=> G.jv.ownBlock=some q) W6 w7)
 (ho:Own 1 Of 92 w7 w0.heap.size v' (G.jg.map Ec.xb++ [g.xb])) (hat:v'.ownBlock=G.jv.ownBlock∨v'.ownBlock=some n6) (hn:W6.heap.size≤n6):
 Bu w0 w own G {F with Af:=F.Af++ [o]} ((w7.setCell ⟨G.fb,3,none⟩ v').putObj D (.deferred none)):=by
 have hb0:=HH.E5.size
 have hbs:=hb.size
 have hnew:∀ q,v'.ownBlock=some q→own' q= .Af∨q=n6:=fun q hq=> by
  rcases hat with e | e
  ·exact .inl (hj q (e ▸ hq))
  ·right;rw [e] at hq;cases hq;rfl
 have h6o:own' n6= .out:=Classical.byContradiction fun hne=> by have:=(h6.lo _ hne).2;omega
 obtain⟨own1,hown1⟩:∃ own1:Nat→Ez,own1=fun q=> if v'.ownBlock=some q then .Af else own' q:=⟨_,rfl⟩
 have e1:∀ q,v'.ownBlock=some q→own1 q= .Af:=fun q hq=> by rw [hown1];exact if_pos hq
 have e2:∀ q,v'.ownBlock≠some q→own1 q=own' q:=fun q hq=> by rw [hown1];exact if_neg hq
 have hsz:W6.heap.size≤w7.heap.size:=k67.size
 have A:B8 w0 (w7.setCell ⟨G.fb,3,none⟩ v') own1 {G with jv:=v',jg:=G.jg++ [g]} {F with Af:=F.Af++ [o]}:=by
  refine h6.Aoj hc (k67.mono fun q hq=> hj q hq) (by simpa using ho) (fun q hq=> ?_) (fun q hq=> ?_) e1
  ·by_cases h1:v'.ownBlock=some q
   ·rw [e1 q h1]
    rcases hnew q h1 with h2 | h2
    ·exact h2.symm
    ·rw [h2,h6o] at hq;exact absurd rfl hq
   ·exact e2 q h1
  ·by_cases h1:v'.ownBlock=some q
   ·exact⟨(ho.lt q h1).1,(ho.lt q h1).2⟩
   ·rw [e2 q h1] at hq
    have:=h6.lo q hq
    exact⟨this.1,by omega⟩
 have oD1:own1 D= .out:=by
  by_cases h1:v'.ownBlock=some D
  ·rcases hnew D h1 with h2 | h2
   ·rw [oD] at h2;cases h2
   ·omega
  ·rw [e2 D h1];exact oD
 have kP:=Ab.put (w7.setCell ⟨G.fb,3,none⟩ v') D (.deferred none)
 have kS:Ab (fun q=> q=G.fb) w7 (w7.setCell ⟨G.fb,3,none⟩ v'):=(Ab.refl (fun q=> q=G.fb) w7).setCell (p:=⟨G.fb,3,none⟩) rfl v'
 have hin:∀ q,own' q≠ .out→q < w.heap.size→own q≠ .out:=fun q h1 h2=> by rw [←hold q h2];exact h1
 refine⟨⟨own1,{G with jv:=v',jg:=G.jg++ [g]},A.Ahv kP fun q hq=> ?_,rfl,fun q hq=> ?_⟩,?_⟩
 ·rw [hq];exact⟨oD1,by omega⟩
 ·by_cases h1:v'.ownBlock=some q
  ·rcases hnew q h1 with h2 | h2
   ·rw [e1 q h1,←hold q hq,h2]
   ·omega
  ·rw [e2 q h1,hold q hq]
 ·have k0:Ab (fun q=> own q≠ .out) w W6:=Ab.Ai hb (Nat.le_refl _)
  have hTj:∀ q,own' q≠ .out→own q≠ .out∨w.heap.size≤q:=fun q h1=> by
   rcases Nat.lt_or_ge q w.heap.size with h2 | h2
   ·exact .inl (hin q h1 h2)
   ·exact .inr h2
  exact((k0.more k67 fun q hq=> hTj q (by rw [hj q hq];simp)).more kS fun q hq=> .inl (by rw [hq,HH.oh];simp)).more kP fun q hq=> .inr (by omega)
set_option maxRecDepth 100000 in
set_option maxHeartbeats 4000000 in
theorem Agj (q size:Int) (prog inp:List UInt8) (h:B8 w0 w own G F) (hi:InvC F) (hpl:prog.length≤100000) (hil:inp.length≤1000000) (hsz:size≤9223372036854775807):
 Calls Tryz.prog 51 #[.pointer (some ⟨G.fb,0,none⟩), .int .i64 q, .string (tx prog), .string (tx inp), .int .i64 size] w fun e w'=> e= .returned (Du (Fv F q prog inp size).1)∧Bu w0 w own G (Fv F q prog inp size).2 w':=by
 have hq4:=(Afs hi.qs).1
 have hj6:=hi.jl
 obtain⟨ja,jc,ej,_⟩:=h.Xd
 have c0:=h.bk.get (j:=0) rfl
 have c3:=h.bk.get (j:=3) rfl
 rw [ej] at c3
 have HH:=Aa h
 have HPA:=Aa (Ye prog w h.gwl hpl)
 unfold An4 at HPA
 have HRE:=Aa fun w' (k:Below w.heap.size w w')=> Z0 inp w' (h.gwl.later k (Nat.le_refl _)).gm hil
 unfold Jp at HRE
 have HTK:Hid (Fv F q prog inp size=if q < 0∨F.Aj.length≤q then(5,F) else if F.Af.length=6 then(2,F) else match Nu prog with
  | none=> (Xa prog,F)
  | some (rv,fold,slices,early)=>
    if N6 inp≠0 then(N6 inp,F) else if size < 1∨60 < size then(1,F)
    else(0,{F with Af:=F.Af++ [Dq q.toNat rv fold slices early ((Mw inp).map tx) size.toNat]})):=by show _=_;unfold Fv;rfl
 have HEJ:=Aa ej
 clear h ej
 refine callsIn_wide.1 (callsIn_of_wp_marks (F:=Fence.wide) (n:=3) Tryz.func51 rfl trivial (wpIn_wide.2 ?_) rfl)
 simp only [Tryz.ntmps51,List.size_toArray,List.length_cons,List.length_nil,Nat.reduceAdd,Nat.reduceSub,Array.replicate_succ,Array.replicate_zero,List.push_toArray,List.append_toArray,List.nil_append,List.cons_append]
 by_cases h1:q < 0∨F.Aj.length≤q
 ·rw [if_pos h1] at HTK
  by_cases h0:q < 0
  ·have e1:decide (q < 0)=true:=by simpa using h0
   go_wp2
   refine Hi (v:= .iface 91 (.int .i64 5)) (by simp [results,Tryz.results51,go_sem]) rfl ?_
   rw [HTK.out]
   exact⟨rfl,Bu.same HH.out (Below.refl _ _)⟩
  ·have e1:decide (q < 0)=false:=by simpa using h0
   obtain⟨qn,rfl⟩:∃ qn:Nat,q=qn:=⟨q.toNat,by omega⟩
   have e2:decide (F.Aj.length≤qn)=true:=by simp;omega
   go_wp2
   refine Hi (v:= .iface 91 (.int .i64 5)) (by simp [results,Tryz.results51,go_sem]) rfl ?_
   rw [HTK.out]
   exact⟨rfl,Bu.same HH.out (Below.refl _ _)⟩
 ·rw [if_neg h1] at HTK
  obtain⟨qn,rfl⟩:∃ qn:Nat,q=qn:=⟨q.toNat,by omega⟩
  have e1:decide ((qn:Int) < 0)=false:=by simp
  have e2:decide (F.Aj.length≤qn)=false:=by simp;omega
  by_cases hj:F.Af.length=6
  ·rw [if_pos hj] at HTK
   have e3:(F.Af.length ==6)=true:=by simpa using hj
   have e3':((F.Af.length:Int) ==6)=true:=by simp;omega
   go_wp2
   refine Hi (v:= .iface 91 (.int .i64 2)) (by simp [results,Tryz.results51,go_sem]) rfl ?_
   rw [HTK.out]
   exact⟨rfl,Bu.same HH.out (Below.refl _ _)⟩
  ·rw [if_neg hj] at HTK
   have e3:(F.Af.length ==6)=false:=by simpa using hj
   have e3':((F.Af.length:Int) ==6)=false:=by simp;omega
   go_wp2_with fail
   refine HPA.out.mono ?_
   rintro e w1 ⟨hP,b1⟩
   have HB1:=Aa b1
   rcases hP with ⟨ro,rc,rs,fold,slices,early,⟨hok,hs,hlen⟩,rfl,hjs⟩ | ⟨hno,rfl⟩
   case inr=>
    rw [Ams hno] at HTK
    have hne:(if 800 < prog.length then(2:Int) else 4)≠0:=by split <;> decide
    have he:Xa prog=if 800 < prog.length then 2 else 4:=rfl
    rw [Ar hne]
    rw [he] at HTK
    have HE:=Aa (Ar hne)
    unfold Af7
    generalize (if 800 < prog.length then(2:Int) else 4)=er at *
    clear hno b1 hne he
    go_wp2
    refine Hi (v:= .iface 91 (.int .i64 er)) (by simp [results,Tryz.results51,go_sem]) rfl ?_
    rw [HTK.out]
    exact⟨by rw [HE.out],Bu.same HH.out (HB1.out.alloc HB1.out.size _)⟩
   case inl=>
    rw [Akf hok hs hlen] at HTK
    dsimp only at HTK
    rw [Anj,Ank] at HTK
    obtain⟨W1,hW1⟩:∃ W1,W1=w1.alloc (.cells #[.slice ro rs.length rc, .int .i64 fold, .bool early, .int .i64 slices] 96):=⟨_,rfl⟩
    have b1':Below w1.heap.size w1 W1:=by rw [hW1];exact ba w1 _
    have hjb:Bk W1 w1.heap.size [.slice ro rs.length rc, .int .i64 fold, .bool early, .int .i64 slices]:=by rw [hW1];exact Bk.new rfl
    have HBW:=Aa (HB1.out.trans (b1'.mono HB1.out.size))
    have HJB:=Aa hjb
    have HJS:=Aa (hjs.kept (Ab.Ai (S:=fun _=> False) b1' (Nat.le_refl _)) fun _ _ h=> h)
    have HJS1:=Aa hjs.bd
    have HR:=Aa (HRE.out W1 HBW.out)
    have HW1:=Aa hW1
    have HOK:=Aa hok
    have HW1L:Hid (w1.heap.size < W1.heap.size):=hjb.lt
    have HB1W:=Aa b1'
    clear hW1 b1' hjb hjs b1 HRE HPA hok hs hlen
    go_upto_region 8 with (fail)
    rw [←HW1.out]
    clear HW1
    go_wp2_with fail
    refine HR.out.mono ?_
    rintro e w2 ⟨⟨lo,lc,rfl,hsl,hln,hlb,hlc⟩,b2⟩
    have HB2:=Aa (HBW.out.trans (b2.mono HBW.out.size))
    clear HR
    by_cases hre:Jf inp=0
    case neg=>
     rw [if_pos hre] at HTK
     rw [Ar hre]
     have HE:=Aa (Ar hre)
     clear hsl hln hlb hlc b2
     generalize Jf inp=er at *
     go_wp2
     refine Hi (v:= .iface 91 (.int .i64 er)) (by simp [results,Tryz.results51,go_sem]) rfl ?_
     rw [HTK.out]
     exact⟨by rw [HE.out],Bu.same HH.out HB2.out⟩
    case pos=>
     have hrb:=Apa hre
     have hne:¬ Jf inp≠0:=fun e=> e hre
     rw [if_neg hne] at HTK
     rw [hre,A3]
     clear hne
     by_cases hsz1:size < 1∨60 < size
     ·rw [if_pos hsz1] at HTK
      clear hsl hln hlb hlc b2 hrb
      by_cases hs0:size < 1
      ·have e4:decide (size < 1)=true:=by simpa using hs0
       go_wp2
       refine Hi (v:= .iface 91 (.int .i64 1)) (by simp [results,Tryz.results51,go_sem]) rfl ?_
       rw [HTK.out]
       exact⟨rfl,Bu.same HH.out HB2.out⟩
      ·have e4:decide (size < 1)=false:=by simpa using hs0
       have e5:decide (60 < size)=true:=by simp;omega
       go_wp2
       refine Hi (v:= .iface 91 (.int .i64 1)) (by simp [results,Tryz.results51,go_sem]) rfl ?_
       rw [HTK.out]
       exact⟨rfl,Bu.same HH.out HB2.out⟩
     ·rw [if_neg hsz1] at HTK
      obtain⟨sz,rfl⟩:∃ sz:Nat,size=sz:=⟨size.toNat,by omega⟩
      have hsz60:1≤sz∧sz≤60:=by omega
      have e4:decide ((sz:Int) < 1)=false:=by simp;omega
      have e5:decide (60 < (sz:Int))=false:=by simp;omega
      have e5':decide (60 < sz)=false:=by simp;omega
      rw [Int.toNat_natCast,Int.toNat_natCast] at HTK
      have HJB2:=Aa (HJB.out.later b2)
      have HJS2:=Aa (HJS.out.kept (Ab.Ai (S:=fun _=> False) b2 (Nat.le_refl _)) fun _ _ h=> h)
      have HSL:=Aa hsl
      have HLN:=Aa hln
      have HLB:=Aa hlb
      have HLC:=Aa hlc
      have HRB:=Aa hrb
      have HW2L:Hid (W1.heap.size≤w2.heap.size):=b2.size
      have HB12:Hid (Below w1.heap.size w1 w2):=HB1W.out.trans (b2.mono HB1W.out.size)
      clear hsl hln hlb hlc b2 hrb hsz1 hre hsz HJB HJS
      obtain⟨sn,rfl⟩:∃ sn:Nat,slices=sn:=⟨slices.toNat,by have:=(O6.of HOK.out).slices;omega⟩
      have hsn:1≤sn∧sn≤4:=by have:=(O6.of HOK.out).slices;omega
      rw [Int.toNat_natCast] at HTK
      obtain⟨i0,hi0,hz0,hz1,hz2⟩:=info_parts Aka
      have hms:∀ w:World,(Instr.makeSlice 39 (.int .i64 sn) (.int .i64 sn)).run Tryz.prog w= .ok (.slice (some ⟨w.heap.size,0,none⟩) sn sn) (w.alloc (.cells (madeCells #[.string ⟨#[]⟩] sn) 9)):=by
       intro w
       have:=run_makeSlice (P:=Tryz.prog) w 39 9 i0 (.string ⟨#[]⟩) Tryz.underlying39 hi0 hz0 .i64 .i64 sn sn (by omega) (by omega) (by rw [hz1];omega) (by rw [hz2];omega) (by omega)
       rw [hz1] at this;simpa [Value.cells] using this
      have hmm:∀ w:World,(Instr.makeMap 99 none).run Tryz.prog w= .ok (.map (some w.heap.size)) (w.alloc (.map #[] 0)):=fun w=> run_makeMap 99 w
      have j0:=HJB2.out.get (j:=0) rfl
      have j1:=HJB2.out.get (j:=1) rfl
      have j2:=HJB2.out.get (j:=2) rfl
      have j3:=HJB2.out.get (j:=3) rfl
      have HJL:Hid (w1.heap.size < w2.heap.size):=HJB2.out.lt
      have hjl:w1.heap.size < w2.heap.size:=HJL.out
      clear hi0 hz0 hz1 hz2
      go_upto_region 13 with (fail)
      go_cut [14] from 58 to 66 (fun v wc=> ∃ tb xb ob mb,v= .pointer (some ⟨tb,0,none⟩)∧Hid (Ob w2 wc tb xb ob mb qn ro rs.length rc fold early sn))
      case first=>
       refine wp_region_noPanic ?_
       refine Al (S:=(fun w'=> Below w2.heap.size w2 w')) (E:= [9]) (by kernel_rfl) ?_ (fun hHeld=> ?_)
       ·(first | exact(Below.refl _ _).drew | exact hHeld.alloc hHeld.size _ | exact hHeld)
       try dsimp only [List.size_toArray,List.length_cons,List.length_nil,Nat.reduceAdd]
       refine hP 0 (v:=?_) rfl (by kernel_rfl) (by rfl) ?_ ?_
       rotate_left
       focus (intro w;go_simp;try with_reducible rfl)
       refine hT 1 [[1]] (v:=?_) rfl (by kernel_rfl) (by rfl) (by assumption) ?_ ?_
       rotate_left
       focus (intro w hSw;(try dsimp only at hSw);(have t0:=cell_later hSw j0;have t1:=cell_later hSw j1;have t2:=cell_later hSw j2;have t3:=cell_later hSw j3);go_simp;try with_reducible rfl)
       refine hP 2 (v:=?_) rfl (by kernel_rfl) (by rfl) ?_ ?_
       rotate_left
       focus (intro w;go_simp;try with_reducible rfl)
       refine hT 3 [[3]] (v:=?_) rfl (by kernel_rfl) (by rfl) (by assumption) ?_ ?_
       rotate_left
       focus (intro w hSw;(try dsimp only at hSw);(have t0:=cell_later hSw j0;have t1:=cell_later hSw j1;have t2:=cell_later hSw j2;have t3:=cell_later hSw j3);go_simp;try with_reducible rfl)
       try simp only [Act.put,List.setIfInBounds_toArray,List.set_cons_zero,List.set_cons_succ]
       refine hR [4,5,8] (by kernel_rfl) (by simp) (Ac.cons rfl (fun KH hKH=> ?_) (Ac.cons rfl (fun KH hKH=> ?_) (Ac.cons rfl (fun KH hKH=> ?_) .nil)))
       ·go_simp
        refine hKH.out _ _ ?_ (fun hNew=> ?_)
        ·(first | exact(Below.refl _ _).drew | exact hHeld.alloc hHeld.size _ | exact hHeld)
        clear hKH KH hHeld
        have hHeld:=hNew
        clear hNew
        refine hR [5,8] (by kernel_rfl) (by simp) (Ac.cons rfl (fun KH hKH=> ?_) (Ac.cons rfl (fun KH hKH=> ?_) .nil))
        ·go_simp
         refine hKH.out _ _ ?_ (fun hNew=> ?_)
         ·(first | exact(Below.refl _ _).drew | exact hHeld.alloc hHeld.size _ | exact hHeld)
         clear hKH KH hHeld
         have hHeld:=hNew
         clear hNew
         try simp only [Act.put,List.setIfInBounds_toArray,List.set_cons_zero,List.set_cons_succ]
         refine hP 6 (v:=?_) rfl (by kernel_rfl) (by rfl) ?_ ?_
         rotate_left
         focus (intro w;go_simp;try with_reducible rfl)
         try simp only [Act.put,List.setIfInBounds_toArray,List.set_cons_zero,List.set_cons_succ]
         refine hR [7,8] (by kernel_rfl) (by simp) (Ac.cons rfl (fun KH hKH=> ?_) (Ac.cons rfl (fun KH hKH=> ?_) .nil))
         ·go_simp
          refine hKH.out _ _ ?_ (fun hNew=> ?_)
          ·(first | exact(Below.refl _ _).drew | exact hHeld.alloc hHeld.size _ | exact hHeld)
          clear hKH KH hHeld
          have hHeld:=hNew
          clear hNew
          try simp only [Act.put,List.setIfInBounds_toArray,List.set_cons_zero,List.set_cons_succ]
          refine hR [8] (by kernel_rfl) (by simp) (Ac.cons rfl (fun KH hKH=> ?_) .nil)
          go_simp
          refine hKH.out _ _ ?_ (fun hNew=> ?_)
          ·(first | exact(Below.refl _ _).drew | exact hHeld.alloc hHeld.size _ | exact hHeld)
          clear hKH KH hHeld
          have hHeld:=hNew
          clear hNew
          try simp only [Act.put,List.setIfInBounds_toArray,List.set_cons_zero,List.set_cons_succ]
          refine hR [9] (by kernel_rfl) (by simp) (Ac.Bb rfl (by kernel_rfl) (fun KH hKH=> ?_) .nil)
          go_simp
          refine hKH.out _ _ ?_
          clear hKH KH
          try clear hHeld
          refine Ak (by kernel_rfl) ?_ _
          refine NoPanic.normal ?_
          go_wp2
          go_meet
          exact⟨_,_,_,_,rfl,Aa (Ob.I7 ⟨(by repeat (first | exact Bk.newAt (by simp) rfl | refine Bk.alloc ?_ _)),(by repeat (first | exact Bk.newAt (by simp) rfl | refine Bk.alloc ?_ _)),(by repeat (first | exact Ib (by simp) (by simp;try omega) hsn.2 | refine Own.alloc ?_ _)),(by repeat (first | exact Gt (by simp) | refine Ds.alloc ?_ _)),(by omega),(by omega),(by repeat (first | exact Below.refl _ _ | refine Below.alloc ?_ (by simp;try omega) _))⟩)⟩
         ·go_simp
          refine hKH.out _ _ ?_ (fun hNew=> ?_)
          ·(first | exact(Below.refl _ _).drew | exact hHeld.alloc hHeld.size _ | exact hHeld)
          clear hKH KH hHeld
          have hHeld:=hNew
          clear hNew
          try simp only [Act.put,List.setIfInBounds_toArray,List.set_cons_zero,List.set_cons_succ]
          refine hR [7] (by kernel_rfl) (by simp) (Ac.cons rfl (fun KH hKH=> ?_) .nil)
          go_simp
          refine hKH.out _ _ ?_ (fun hNew=> ?_)
          ·(first | exact(Below.refl _ _).drew | exact hHeld.alloc hHeld.size _ | exact hHeld)
          clear hKH KH hHeld
          have hHeld:=hNew
          clear hNew
          try simp only [Act.put,List.setIfInBounds_toArray,List.set_cons_zero,List.set_cons_succ]
          refine hR [9] (by kernel_rfl) (by simp) (Ac.Bb rfl (by kernel_rfl) (fun KH hKH=> ?_) .nil)
          go_simp
          refine hKH.out _ _ ?_
          clear hKH KH
          try clear hHeld
          refine Ak (by kernel_rfl) ?_ _
          refine NoPanic.normal ?_
          go_wp2
          go_meet
          exact⟨_,_,_,_,rfl,Aa (Ob.I7 ⟨(by repeat (first | exact Bk.newAt (by simp) rfl | refine Bk.alloc ?_ _)),(by repeat (first | exact Bk.newAt (by simp) rfl | refine Bk.alloc ?_ _)),(by repeat (first | exact Ib (by simp) (by simp;try omega) hsn.2 | refine Own.alloc ?_ _)),(by repeat (first | exact Gt (by simp) | refine Ds.alloc ?_ _)),(by omega),(by omega),(by repeat (first | exact Below.refl _ _ | refine Below.alloc ?_ (by simp;try omega) _))⟩)⟩
        ·go_simp
         refine hKH.out _ _ ?_ (fun hNew=> ?_)
         ·(first | exact(Below.refl _ _).drew | exact hHeld.alloc hHeld.size _ | exact hHeld)
         clear hKH KH hHeld
         have hHeld:=hNew
         clear hNew
         try simp only [Act.put,List.setIfInBounds_toArray,List.set_cons_zero,List.set_cons_succ]
         refine hR [5] (by kernel_rfl) (by simp) (Ac.cons rfl (fun KH hKH=> ?_) .nil)
         go_simp
         refine hKH.out _ _ ?_ (fun hNew=> ?_)
         ·(first | exact(Below.refl _ _).drew | exact hHeld.alloc hHeld.size _ | exact hHeld)
         clear hKH KH hHeld
         have hHeld:=hNew
         clear hNew
         try simp only [Act.put,List.setIfInBounds_toArray,List.set_cons_zero,List.set_cons_succ]
         refine hP 6 (v:=?_) rfl (by kernel_rfl) (by rfl) ?_ ?_
         rotate_left
         focus (intro w;go_simp;try with_reducible rfl)
         try simp only [Act.put,List.setIfInBounds_toArray,List.set_cons_zero,List.set_cons_succ]
         refine hR [7] (by kernel_rfl) (by simp) (Ac.cons rfl (fun KH hKH=> ?_) .nil)
         go_simp
         refine hKH.out _ _ ?_ (fun hNew=> ?_)
         ·(first | exact(Below.refl _ _).drew | exact hHeld.alloc hHeld.size _ | exact hHeld)
         clear hKH KH hHeld
         have hHeld:=hNew
         clear hNew
         try simp only [Act.put,List.setIfInBounds_toArray,List.set_cons_zero,List.set_cons_succ]
         refine hR [9] (by kernel_rfl) (by simp) (Ac.Bb rfl (by kernel_rfl) (fun KH hKH=> ?_) .nil)
         go_simp
         refine hKH.out _ _ ?_
         clear hKH KH
         try clear hHeld
         refine Ak (by kernel_rfl) ?_ _
         refine NoPanic.normal ?_
         go_wp2
         go_meet
         exact⟨_,_,_,_,rfl,Aa (Ob.I7 ⟨(by repeat (first | exact Bk.newAt (by simp) rfl | refine Bk.alloc ?_ _)),(by repeat (first | exact Bk.newAt (by simp) rfl | refine Bk.alloc ?_ _)),(by repeat (first | exact Ib (by simp) (by simp;try omega) hsn.2 | refine Own.alloc ?_ _)),(by repeat (first | exact Gt (by simp) | refine Ds.alloc ?_ _)),(by omega),(by omega),(by repeat (first | exact Below.refl _ _ | refine Below.alloc ?_ (by simp;try omega) _))⟩)⟩
       ·go_simp
        refine hKH.out _ _ ?_ (fun hNew=> ?_)
        ·(first | exact(Below.refl _ _).drew | exact hHeld.alloc hHeld.size _ | exact hHeld)
        clear hKH KH hHeld
        have hHeld:=hNew
        clear hNew
        refine hR [4,8] (by kernel_rfl) (by simp) (Ac.cons rfl (fun KH hKH=> ?_) (Ac.cons rfl (fun KH hKH=> ?_) .nil))
        ·go_simp
         refine hKH.out _ _ ?_ (fun hNew=> ?_)
         ·(first | exact(Below.refl _ _).drew | exact hHeld.alloc hHeld.size _ | exact hHeld)
         clear hKH KH hHeld
         have hHeld:=hNew
         clear hNew
         try simp only [Act.put,List.setIfInBounds_toArray,List.set_cons_zero,List.set_cons_succ]
         refine hP 6 (v:=?_) rfl (by kernel_rfl) (by rfl) ?_ ?_
         rotate_left
         focus (intro w;go_simp;try with_reducible rfl)
         try simp only [Act.put,List.setIfInBounds_toArray,List.set_cons_zero,List.set_cons_succ]
         refine hR [7,8] (by kernel_rfl) (by simp) (Ac.cons rfl (fun KH hKH=> ?_) (Ac.cons rfl (fun KH hKH=> ?_) .nil))
         ·go_simp
          refine hKH.out _ _ ?_ (fun hNew=> ?_)
          ·(first | exact(Below.refl _ _).drew | exact hHeld.alloc hHeld.size _ | exact hHeld)
          clear hKH KH hHeld
          have hHeld:=hNew
          clear hNew
          try simp only [Act.put,List.setIfInBounds_toArray,List.set_cons_zero,List.set_cons_succ]
          refine hR [8] (by kernel_rfl) (by simp) (Ac.cons rfl (fun KH hKH=> ?_) .nil)
          go_simp
          refine hKH.out _ _ ?_ (fun hNew=> ?_)
          ·(first | exact(Below.refl _ _).drew | exact hHeld.alloc hHeld.size _ | exact hHeld)
          clear hKH KH hHeld
          have hHeld:=hNew
          clear hNew
          try simp only [Act.put,List.setIfInBounds_toArray,List.set_cons_zero,List.set_cons_succ]
          refine hR [9] (by kernel_rfl) (by simp) (Ac.Bb rfl (by kernel_rfl) (fun KH hKH=> ?_) .nil)
          go_simp
          refine hKH.out _ _ ?_
          clear hKH KH
          try clear hHeld
          refine Ak (by kernel_rfl) ?_ _
          refine NoPanic.normal ?_
          go_wp2
          go_meet
          exact⟨_,_,_,_,rfl,Aa (Ob.I7 ⟨(by repeat (first | exact Bk.newAt (by simp) rfl | refine Bk.alloc ?_ _)),(by repeat (first | exact Bk.newAt (by simp) rfl | refine Bk.alloc ?_ _)),(by repeat (first | exact Ib (by simp) (by simp;try omega) hsn.2 | refine Own.alloc ?_ _)),(by repeat (first | exact Gt (by simp) | refine Ds.alloc ?_ _)),(by omega),(by omega),(by repeat (first | exact Below.refl _ _ | refine Below.alloc ?_ (by simp;try omega) _))⟩)⟩
         ·go_simp
          refine hKH.out _ _ ?_ (fun hNew=> ?_)
          ·(first | exact(Below.refl _ _).drew | exact hHeld.alloc hHeld.size _ | exact hHeld)
          clear hKH KH hHeld
          have hHeld:=hNew
          clear hNew
          try simp only [Act.put,List.setIfInBounds_toArray,List.set_cons_zero,List.set_cons_succ]
          refine hR [7] (by kernel_rfl) (by simp) (Ac.cons rfl (fun KH hKH=> ?_) .nil)
          go_simp
          refine hKH.out _ _ ?_ (fun hNew=> ?_)
          ·(first | exact(Below.refl _ _).drew | exact hHeld.alloc hHeld.size _ | exact hHeld)
          clear hKH KH hHeld
          have hHeld:=hNew
          clear hNew
          try simp only [Act.put,List.setIfInBounds_toArray,List.set_cons_zero,List.set_cons_succ]
          refine hR [9] (by kernel_rfl) (by simp) (Ac.Bb rfl (by kernel_rfl) (fun KH hKH=> ?_) .nil)
          go_simp
          refine hKH.out _ _ ?_
          clear hKH KH
          try clear hHeld
          refine Ak (by kernel_rfl) ?_ _
          refine NoPanic.normal ?_
          go_wp2
          go_meet
          exact⟨_,_,_,_,rfl,Aa (Ob.I7 ⟨(by repeat (first | exact Bk.newAt (by simp) rfl | refine Bk.alloc ?_ _)),(by repeat (first | exact Bk.newAt (by simp) rfl | refine Bk.alloc ?_ _)),(by repeat (first | exact Ib (by simp) (by simp;try omega) hsn.2 | refine Own.alloc ?_ _)),(by repeat (first | exact Gt (by simp) | refine Ds.alloc ?_ _)),(by omega),(by omega),(by repeat (first | exact Below.refl _ _ | refine Below.alloc ?_ (by simp;try omega) _))⟩)⟩
        ·go_simp
         refine hKH.out _ _ ?_ (fun hNew=> ?_)
         ·(first | exact(Below.refl _ _).drew | exact hHeld.alloc hHeld.size _ | exact hHeld)
         clear hKH KH hHeld
         have hHeld:=hNew
         clear hNew
         try simp only [Act.put,List.setIfInBounds_toArray,List.set_cons_zero,List.set_cons_succ]
         refine hR [4] (by kernel_rfl) (by simp) (Ac.cons rfl (fun KH hKH=> ?_) .nil)
         go_simp
         refine hKH.out _ _ ?_ (fun hNew=> ?_)
         ·(first | exact(Below.refl _ _).drew | exact hHeld.alloc hHeld.size _ | exact hHeld)
         clear hKH KH hHeld
         have hHeld:=hNew
         clear hNew
         try simp only [Act.put,List.setIfInBounds_toArray,List.set_cons_zero,List.set_cons_succ]
         refine hP 6 (v:=?_) rfl (by kernel_rfl) (by rfl) ?_ ?_
         rotate_left
         focus (intro w;go_simp;try with_reducible rfl)
         try simp only [Act.put,List.setIfInBounds_toArray,List.set_cons_zero,List.set_cons_succ]
         refine hR [7] (by kernel_rfl) (by simp) (Ac.cons rfl (fun KH hKH=> ?_) .nil)
         go_simp
         refine hKH.out _ _ ?_ (fun hNew=> ?_)
         ·(first | exact(Below.refl _ _).drew | exact hHeld.alloc hHeld.size _ | exact hHeld)
         clear hKH KH hHeld
         have hHeld:=hNew
         clear hNew
         try simp only [Act.put,List.setIfInBounds_toArray,List.set_cons_zero,List.set_cons_succ]
         refine hR [9] (by kernel_rfl) (by simp) (Ac.Bb rfl (by kernel_rfl) (fun KH hKH=> ?_) .nil)
         go_simp
         refine hKH.out _ _ ?_
         clear hKH KH
         try clear hHeld
         refine Ak (by kernel_rfl) ?_ _
         refine NoPanic.normal ?_
         go_wp2
         go_meet
         exact⟨_,_,_,_,rfl,Aa (Ob.I7 ⟨(by repeat (first | exact Bk.newAt (by simp) rfl | refine Bk.alloc ?_ _)),(by repeat (first | exact Bk.newAt (by simp) rfl | refine Bk.alloc ?_ _)),(by repeat (first | exact Ib (by simp) (by simp;try omega) hsn.2 | refine Own.alloc ?_ _)),(by repeat (first | exact Gt (by simp) | refine Ds.alloc ?_ _)),(by omega),(by omega),(by repeat (first | exact Below.refl _ _ | refine Below.alloc ?_ (by simp;try omega) _))⟩)⟩
       ·go_simp
        refine hKH.out _ _ ?_ (fun hNew=> ?_)
        ·(first | exact(Below.refl _ _).drew | exact hHeld.alloc hHeld.size _ | exact hHeld)
        clear hKH KH hHeld
        have hHeld:=hNew
        clear hNew
        refine hR [4,5] (by kernel_rfl) (by simp) (Ac.cons rfl (fun KH hKH=> ?_) (Ac.cons rfl (fun KH hKH=> ?_) .nil))
        ·go_simp
         refine hKH.out _ _ ?_ (fun hNew=> ?_)
         ·(first | exact(Below.refl _ _).drew | exact hHeld.alloc hHeld.size _ | exact hHeld)
         clear hKH KH hHeld
         have hHeld:=hNew
         clear hNew
         try simp only [Act.put,List.setIfInBounds_toArray,List.set_cons_zero,List.set_cons_succ]
         refine hR [5] (by kernel_rfl) (by simp) (Ac.cons rfl (fun KH hKH=> ?_) .nil)
         go_simp
         refine hKH.out _ _ ?_ (fun hNew=> ?_)
         ·(first | exact(Below.refl _ _).drew | exact hHeld.alloc hHeld.size _ | exact hHeld)
         clear hKH KH hHeld
         have hHeld:=hNew
         clear hNew
         try simp only [Act.put,List.setIfInBounds_toArray,List.set_cons_zero,List.set_cons_succ]
         refine hP 6 (v:=?_) rfl (by kernel_rfl) (by rfl) ?_ ?_
         rotate_left
         focus (intro w;go_simp;try with_reducible rfl)
         try simp only [Act.put,List.setIfInBounds_toArray,List.set_cons_zero,List.set_cons_succ]
         refine hR [7] (by kernel_rfl) (by simp) (Ac.cons rfl (fun KH hKH=> ?_) .nil)
         go_simp
         refine hKH.out _ _ ?_ (fun hNew=> ?_)
         ·(first | exact(Below.refl _ _).drew | exact hHeld.alloc hHeld.size _ | exact hHeld)
         clear hKH KH hHeld
         have hHeld:=hNew
         clear hNew
         try simp only [Act.put,List.setIfInBounds_toArray,List.set_cons_zero,List.set_cons_succ]
         refine hR [9] (by kernel_rfl) (by simp) (Ac.Bb rfl (by kernel_rfl) (fun KH hKH=> ?_) .nil)
         go_simp
         refine hKH.out _ _ ?_
         clear hKH KH
         try clear hHeld
         refine Ak (by kernel_rfl) ?_ _
         refine NoPanic.normal ?_
         go_wp2
         go_meet
         exact⟨_,_,_,_,rfl,Aa (Ob.I7 ⟨(by repeat (first | exact Bk.newAt (by simp) rfl | refine Bk.alloc ?_ _)),(by repeat (first | exact Bk.newAt (by simp) rfl | refine Bk.alloc ?_ _)),(by repeat (first | exact Ib (by simp) (by simp;try omega) hsn.2 | refine Own.alloc ?_ _)),(by repeat (first | exact Gt (by simp) | refine Ds.alloc ?_ _)),(by omega),(by omega),(by repeat (first | exact Below.refl _ _ | refine Below.alloc ?_ (by simp;try omega) _))⟩)⟩
        ·go_simp
         refine hKH.out _ _ ?_ (fun hNew=> ?_)
         ·(first | exact(Below.refl _ _).drew | exact hHeld.alloc hHeld.size _ | exact hHeld)
         clear hKH KH hHeld
         have hHeld:=hNew
         clear hNew
         try simp only [Act.put,List.setIfInBounds_toArray,List.set_cons_zero,List.set_cons_succ]
         refine hR [4] (by kernel_rfl) (by simp) (Ac.cons rfl (fun KH hKH=> ?_) .nil)
         go_simp
         refine hKH.out _ _ ?_ (fun hNew=> ?_)
         ·(first | exact(Below.refl _ _).drew | exact hHeld.alloc hHeld.size _ | exact hHeld)
         clear hKH KH hHeld
         have hHeld:=hNew
         clear hNew
         try simp only [Act.put,List.setIfInBounds_toArray,List.set_cons_zero,List.set_cons_succ]
         refine hP 6 (v:=?_) rfl (by kernel_rfl) (by rfl) ?_ ?_
         rotate_left
         focus (intro w;go_simp;try with_reducible rfl)
         try simp only [Act.put,List.setIfInBounds_toArray,List.set_cons_zero,List.set_cons_succ]
         refine hR [7] (by kernel_rfl) (by simp) (Ac.cons rfl (fun KH hKH=> ?_) .nil)
         go_simp
         refine hKH.out _ _ ?_ (fun hNew=> ?_)
         ·(first | exact(Below.refl _ _).drew | exact hHeld.alloc hHeld.size _ | exact hHeld)
         clear hKH KH hHeld
         have hHeld:=hNew
         clear hNew
         try simp only [Act.put,List.setIfInBounds_toArray,List.set_cons_zero,List.set_cons_succ]
         refine hR [9] (by kernel_rfl) (by simp) (Ac.Bb rfl (by kernel_rfl) (fun KH hKH=> ?_) .nil)
         go_simp
         refine hKH.out _ _ ?_
         clear hKH KH
         try clear hHeld
         refine Ak (by kernel_rfl) ?_ _
         refine NoPanic.normal ?_
         go_wp2
         go_meet
         exact⟨_,_,_,_,rfl,Aa (Ob.I7 ⟨(by repeat (first | exact Bk.newAt (by simp) rfl | refine Bk.alloc ?_ _)),(by repeat (first | exact Bk.newAt (by simp) rfl | refine Bk.alloc ?_ _)),(by repeat (first | exact Ib (by simp) (by simp;try omega) hsn.2 | refine Own.alloc ?_ _)),(by repeat (first | exact Gt (by simp) | refine Ds.alloc ?_ _)),(by omega),(by omega),(by repeat (first | exact Below.refl _ _ | refine Below.alloc ?_ (by simp;try omega) _))⟩)⟩
      case rest=>
       obtain⟨tb,xb,ob,mb,rfl,HNX⟩:=hcut
       clear hms hmm j0 j1 j2 j3 hjl
       have hnl:(Jg inp).length≤60:=HRB.out.1
       generalize hnlq:(Jg inp).length=nl at *
       have HNL:=Aa hnlq
       clear hnlq
       go_wp2_with fail
       refine(Aga lo nl lc sz wc hsz60.1).mono ?_
       rintro e w4 ⟨rfl,h4⟩
       have b4:Below wc.heap.size wc w4:=by rw [h4];exact(ba wc _).alloc (by simp) _
       have k1:w4.cell? ⟨wc.heap.size,0,none⟩=some (.slice lo nl lc):=by rw [h4];exact((Bk.new (w:=wc) (cs:= #[.slice lo nl lc]) (t:=39) rfl).alloc _).get (j:=0) rfl
       have k2:w4.cell? ⟨wc.heap.size+1,0,none⟩=some (.int .i64 sz):=by
        rw [h4]
        have:=(Bk.new (w:=wc.alloc (.cells #[.slice lo nl lc] 39)) (cs:= #[.int .i64 sz]) (t:=3) rfl).get (j:=0) rfl
        simp
       have hs4:w4.heap.size=wc.heap.size+2:=by rw [h4];simp
       have hx4:=HNX.out.later b4
       have hxl:=hx4.bx.lt
       have hxc:=HNX.out.bx.lt
       have htc:=HNX.out.bt.lt
       have HSLW:=Aa ((HSL.out.later HNX.out.bl (Nat.le_refl _)).later b4 (Nat.le_refl _))
       have HX4:=Aa hx4
       have HLO:Hid (0 < nl→∃ b off,lo=some ⟨b,off,none⟩):=fun h0=> by
        obtain⟨b,off,e,_⟩:=HSL.out (by rw [List.length_map,HNL.out];exact h0)
        exact⟨b,off,e⟩
       have HS4:=Aa hs4
       have HB4:=Aa b4
       have hxt:xb≠tb:=fun e=> HNX.out.ne.1 e.symm
       clear h4 b4 hx4
       go_wp2_with fail
       refine(wpIn_wide (n:=3)).1 ?_
       apply wpIn_rangeFunc_ownG (F:=Fence.wide) (n:=3) rfl (by omega) (gf:=123) (lb:= #[.pointer (some ⟨wc.heap.size,0,none⟩), .pointer (some ⟨wc.heap.size+1,0,none⟩)]) rfl trivial (enters_of Tryz.func123 (by kernel_rfl) rfl)
        (Z8 2 wc.heap.size (wc.heap.size+1) lo nl lc sz hsz60.1 (by omega) (by omega) HLC.out HLO.out w4 (by omega) (by omega) k1 k2) (fun h k=> h.trans k) (fun W l o o' hl _ _ _=> ⟨Sa (by show wc.heap.size≠l;omega),Sa (by show wc.heap.size+1≠l;omega)⟩) (Below.refl _ _) (fun _=> rfl)
        (Acx w4 xb (fun v=> [.int .i64 qn, .slice ro rs.length rc, .int .i64 fold, .bool early, .int .i64 sn, .pointer none,v, .slice (some ⟨ob,0,none⟩) sn sn, .map (some mb)])) (fun _ _ _=> False) (Acx.own hxl) (fun _ _ _ _ _ h _ _=> h) ⟨.slice none 0 0,HX4.out.bx,Own.nil,Ab.refl _ _⟩
       case hassign=>
        intro l x W K hK
        gi_wp2
        exact hK
       case hbody=>
        rintro l pre x W ⟨v,h1,h2,h3⟩ hlt
        obtain⟨xa,xl,xc⟩:=x
        obtain⟨va,vc,rfl⟩:=id h2.1
        simp only [List.length_map] at h1 h2
        obtain⟨i1,hi1,hy0,hy1,hy2⟩:=info_parts Ahm
        have q0:=h3.cell (HX4.out.bt.get (j:=0) rfl) (fun e=> hxt e.symm)
        have q6:=h1.get (j:=6) rfl
        have HNT:Hid (¬ (Value.slice va pre.length vc).ownBlock=some tb):=fun e=> by have:=(h2.lt tb e).1;omega
        have HNX6:Hid (¬ (Value.slice va pre.length vc).ownBlock=some xb):=fun e=> by have:=(h2.lt xb e).1;omega
        have HLE:Hid ((pre.map partOf).length+1≤1000000000):=by
         have h5:=Uk (n:=nl) (size:=sz) hsz60.1
         show _≤_
         rw [List.length_map]
         omega
        have hch:chV (xa,xl,xc)= .slice xa xl xc:=rfl
        rw [hch]
        have H1:=Aa h1
        have H2:=Aa h2
        have H3:=Aa h3
        have H4S:Hid (w4.heap.size≤W.heap.size):=h3.size
        clear h1 h2 h3 hlt hch
        refine wpIn_block ?_
        refine Lc (S:=(fun w'=> Ab (fun q=> (Value.slice va pre.length vc).ownBlock=some q) W w')) (E:= [11]) (by kernel_rfl) (by kernel_rfl) (by rintro⟨a,w,h⟩;exact h) ?_ (fun hHeld=> ?_)
        ·(first | exact(Ab.refl _ _).drew | exact hHeld.trans (Ab.A9 hgr fun q e=> e) | exact hHeld.alloc _ | exact hHeld)
        try dsimp only [List.size_toArray,List.length_cons,List.length_nil,Nat.reduceAdd]
        refine Iw (i:=0) (oi:={dst:=some 70,op:=Op.load 92 (Operand.tmp 14),type:=92,pos:= "floor.go:98",after:= #[],guard:=none}) (v:=?_) [[0]] rfl (by kernel_rfl) (by kernel_rfl) (by kernel_rfl) (by kernel_rfl) (by kernel_rfl) (fun _ _ _ h=> h) (Or.inl ⟨by rfl,?_⟩) (by assumption) ?_
        rotate_left
        ·(intro w hSw;(try dsimp only at hSw);(have t0:=hSw.cell q0 HNT.out;have t6:=hSw.cell q6 HNX6.out);go_simp;try with_reducible rfl)
        try simp only [Act.put,List.setIfInBounds_toArray,List.set_cons_zero,List.set_cons_succ]
        refine Iw (i:=1) (oi:={dst:=some 71,op:=Op.load 92 (Operand.tmp 14),type:=92,pos:= "floor.go:98",after:= #[],guard:=none}) (v:=?_) [[1]] rfl (by kernel_rfl) (by kernel_rfl) (by kernel_rfl) (by kernel_rfl) (by kernel_rfl) (fun _ _ _ h=> h) (Or.inl ⟨by rfl,?_⟩) (by assumption) ?_
        rotate_left
        ·(intro w hSw;(try dsimp only at hSw);(have t0:=hSw.cell q0 HNT.out;have t6:=hSw.cell q6 HNX6.out);go_simp;try with_reducible rfl)
        try simp only [Act.put,List.setIfInBounds_toArray,List.set_cons_zero,List.set_cons_succ]
        refine Gi (i:=5) (oi:={dst:=some 75,op:=Op.move (Operand.tmp 15),type:=39,pos:= "floor.go:98",after:= #[],guard:=none}) (v:=?_) rfl (by kernel_rfl) (by kernel_rfl) (by kernel_rfl) (fun _ _ _ h=> h) (Or.inl ⟨by rfl,?_⟩) ?_
        rotate_left
        ·(intro w _;go_simp;try with_reducible rfl)
        try simp only [Act.put,List.setIfInBounds_toArray,List.set_cons_zero,List.set_cons_succ]
        refine Gi (i:=2) (oi:={dst:=some 72,op:=Op.nilCheck (Operand.tmp 71),type:=0,pos:= "floor.go:98",after:= #[{on:=1,ground:=Ground.data}],guard:=none}) (v:=?_) rfl (by kernel_rfl) (by kernel_rfl) (by kernel_rfl) (fun _ _ _ h=> h) (Or.inl ⟨by rfl,?_⟩) ?_
        rotate_left
        ·(intro w _;go_simp;try with_reducible rfl)
        try simp only [Act.put,List.setIfInBounds_toArray,List.set_cons_zero,List.set_cons_succ]
        refine Gi (i:=6) (oi:={dst:=some 76,op:=Op.build 133 #[(0,Operand.tmp 75)],type:=133,pos:= "floor.go:98",after:= #[{on:=5,ground:=Ground.data}],guard:=none}) (v:=?_) rfl (by kernel_rfl) (by kernel_rfl) (by kernel_rfl) (fun _ _ _ h=> h) (Or.inl ⟨by rfl,?_⟩) ?_
        rotate_left
        ·(intro w _;go_simp;try with_reducible rfl)
        try simp only [Act.put,List.setIfInBounds_toArray,List.set_cons_zero,List.set_cons_succ]
        refine Gi (i:=3) (oi:={dst:=some 73,op:=Op.fieldAddr 101 (Operand.tmp 72) 3,type:=0,pos:= "floor.go:98",after:= #[{on:=2,ground:=Ground.data}],guard:=none}) (v:=?_) rfl (by kernel_rfl) (by kernel_rfl) (by kernel_rfl) (fun _ _ _ h=> h) (Or.inl ⟨by rfl,?_⟩) ?_
        rotate_left
        ·(intro w _;go_simp;try with_reducible rfl)
        try simp only [Act.put,List.setIfInBounds_toArray,List.set_cons_zero,List.set_cons_succ]
        refine Iw (i:=4) (oi:={dst:=some 74,op:=Op.load 98 (Operand.tmp 73),type:=98,pos:= "floor.go:98",after:= #[{on:=3,ground:=Ground.data}],guard:=none}) (v:=?_) [[4]] rfl (by kernel_rfl) (by kernel_rfl) (by kernel_rfl) (by kernel_rfl) (by kernel_rfl) (fun _ _ _ h=> h) (Or.inl ⟨by rfl,?_⟩) (by assumption) ?_
        rotate_left
        ·(intro w hSw;(try dsimp only at hSw);(have t0:=hSw.cell q0 HNT.out;have t6:=hSw.cell q6 HNX6.out);go_simp;try with_reducible rfl)
        try simp only [Act.put,List.setIfInBounds_toArray,List.set_cons_zero,List.set_cons_succ]
        refine E7 (rs:= [7]) (by kernel_rfl) (by simp) ?_
        refine Ac.cons (o:={dst:=some 77,op:=Op.buildSlice 98 1 #[(0,Operand.tmp 76)],type:=98,pos:= "floor.go:98",after:= #[{on:=6,ground:=Ground.data}],guard:=none}) rfl (fun KH hKH=> ?_) Ac.nil
        go_simp
        refine hKH.out _ _ ?_ (fun hNew=> ?_)
        ·(first | exact(Ab.refl _ _).drew | exact hHeld.trans (Ab.A9 hgr fun q e=> e) | exact hHeld.alloc _ | exact hHeld)
        clear hKH KH hHeld
        have hHeld:=hNew
        clear hNew
        try simp only [Act.put,List.setIfInBounds_toArray,List.set_cons_zero,List.set_cons_succ]
        refine E7 (rs:= [8]) (by kernel_rfl) (by simp) ?_
        refine Ac.cons (o:={dst:=some 78,op:=Op.call {callee:=Callee.builtin Builtin.append,args:= #[Operand.tmp 74,Operand.tmp 77],argTypes:= #[98,98]},type:=98,pos:= "floor.go:98",after:= #[{on:=4,ground:=Ground.data},{on:=7,ground:=Ground.data}],guard:=none}) rfl (fun KH hKH=> ?_) Ac.nil
        refine Cs (enc:=Ew) Jt _ _ 98 i1 _ rfl rfl Tryz.underlying98 hi1 hy0 hy1 hy2 rfl (by decide) (by decide) (H2.out.later ((Below.refl W.heap.size W).drew.alloc (Nat.le_refl _) _)) (Below.refl _ _) (Nat.le_trans H4S.out hHeld.size) HLE.out rfl (partOf (xa,xl,xc)) ⟨W.heap.size,0,none⟩ 1 rfl (Fc rfl rfl) (by intro u hu;simp [Ew,partOf,chV] at hu;rcases hu with rfl | rfl <;> rfl) ?_
        intro v' w7 ho _ hgr hat
        obtain⟨va',vc',rfl⟩:=id ho.1
        have hb7:=(H1.out.later ((Below.refl W.heap.size W).drew.alloc (Nat.le_refl _) _)).kept (Ab.A9 hgr fun q e=> e) HNX6.out
        have s6:=hb7.get (j:=6) rfl
        have z6:=hb7.fz 6
        have HPR:=Aa (Acx.round (x:=(xa,xl,xc)) (A:=fun v=> [.int .i64 qn, .slice ro rs.length rc, .int .i64 fold, .bool early, .int .i64 sn, .pointer none,v, .slice (some ⟨ob,0,none⟩) sn sn, .map (some mb)]) (u:= .pointer none) hxl (B1:=wc.heap.size) (B2:=wc.heap.size+1) ⟨by omega,by omega⟩ ⟨by omega,by omega⟩ (fun _ _=> rfl) (fun _=> rfl) H1.out H2.out H3.out ((Below.refl W.heap.size W).drew.alloc (Nat.le_refl _) _) ho hgr (fun k o hk _=> (((Below.refl W.heap.size W).drew.alloc (Nat.le_refl _) _).block k (Array.getElem?_eq_some_iff.1 hk).1).trans hk))
        have HPR2:=HPR.out
        simp only [List.length_append,List.length_map,List.length_cons,List.length_nil,Nat.zero_add] at HPR2
        have HPR3:=Aa HPR2
        clear ho hat hb7 HPR2 HPR
        refine hKH.out _ _ ?_ (fun hNew=> ?_)
        ·(first | exact(Ab.refl _ _).drew | exact hHeld.trans (Ab.A9 hgr fun q e=> e) | exact hHeld.alloc _ | exact hHeld)
        clear hKH KH hHeld
        have hHeld:=hNew
        clear hNew
        try simp only [Act.put,List.setIfInBounds_toArray,List.set_cons_zero,List.set_cons_succ]
        refine E7 (rs:= [9]) (by kernel_rfl) (by simp) ?_
        refine Ac.cons (o:={dst:=some 79,op:=Op.nilCheck (Operand.tmp 70),type:=0,pos:= "floor.go:98",after:= #[{on:=0,ground:=Ground.data},{on:=0,ground:=Ground.phase},{on:=1,ground:=Ground.phase},{on:=2,ground:=Ground.phase},{on:=3,ground:=Ground.phase},{on:=4,ground:=Ground.phase},{on:=5,ground:=Ground.phase},{on:=6,ground:=Ground.phase},{on:=7,ground:=Ground.phase},{on:=8,ground:=Ground.phase}],guard:=none}) rfl (fun KH hKH=> ?_) Ac.nil
        go_simp
        refine hKH.out _ _ ?_ (fun hNew=> ?_)
        ·(first | exact(Ab.refl _ _).drew | exact hHeld.trans (Ab.A9 hgr fun q e=> e) | exact hHeld.alloc _ | exact hHeld)
        clear hKH KH hHeld
        have hHeld:=hNew
        clear hNew
        try simp only [Act.put,List.setIfInBounds_toArray,List.set_cons_zero,List.set_cons_succ]
        refine E7 (rs:= [10]) (by kernel_rfl) (by simp) ?_
        refine Ac.cons (o:={dst:=some 80,op:=Op.fieldAddr 101 (Operand.tmp 79) 3,type:=0,pos:= "floor.go:98",after:= #[{on:=9,ground:=Ground.data},{on:=0,ground:=Ground.phase},{on:=1,ground:=Ground.phase},{on:=2,ground:=Ground.phase},{on:=3,ground:=Ground.phase},{on:=4,ground:=Ground.phase},{on:=5,ground:=Ground.phase},{on:=6,ground:=Ground.phase},{on:=7,ground:=Ground.phase},{on:=8,ground:=Ground.phase}],guard:=none}) rfl (fun KH hKH=> ?_) Ac.nil
        go_simp
        refine hKH.out _ _ ?_ (fun hNew=> ?_)
        ·(first | exact(Ab.refl _ _).drew | exact hHeld.trans (Ab.A9 hgr fun q e=> e) | exact hHeld.alloc _ | exact hHeld)
        clear hKH KH hHeld
        have hHeld:=hNew
        clear hNew
        try simp only [Act.put,List.setIfInBounds_toArray,List.set_cons_zero,List.set_cons_succ]
        refine E7 (rs:= [11]) (by kernel_rfl) (by simp) ?_
        refine Ac.Bb (o:={dst:=none,op:=Op.store 98 (Operand.tmp 80) (Operand.tmp 78),type:=0,pos:= "floor.go:98",after:= #[{on:=10,ground:=Ground.data},{on:=8,ground:=Ground.data},{on:=8,ground:=Ground.chain},{on:=0,ground:=Ground.phase},{on:=1,ground:=Ground.phase},{on:=2,ground:=Ground.phase},{on:=3,ground:=Ground.phase},{on:=4,ground:=Ground.phase},{on:=5,ground:=Ground.phase},{on:=6,ground:=Ground.phase},{on:=7,ground:=Ground.phase},{on:=8,ground:=Ground.phase}],guard:=none}) rfl (by kernel_rfl) (fun KH hKH=> ?_) Ac.nil
        go_simp
        refine hKH.out _ _ ?_
        clear hKH KH
        try clear hHeld
        try simp only [Act.put,List.setIfInBounds_toArray,List.set_cons_zero,List.set_cons_succ]
        refine Ak (by kernel_rfl) ?_ _
        refine NoPanic.normal ?_
        exact HPR3.out
       case hstop=> exact fun D c pre W _ _ h _=> h.elim
       case hdone=>
        rintro D ys W hD rfl ⟨v,h1,h2,h3⟩ hdf
        obtain⟨va,vc,rfl⟩:=id h2.1
        have hpl:((E0 lo nl sz (Bs nl sz)).map partOf).length=Bs nl sz:=by rw [List.length_map,Lj]
        rw [hpl] at h1 h2
        have hnc:=Uk (n:=nl) (size:=sz) hsz60.1
        have q0:=h3.cell (HX4.out.bt.get (j:=0) rfl) (fun e=> hxt e.symm)
        have q6:=h1.get (j:=6) rfl
        have q4:=h3.cell (((HJB2.out.later HNX.out.bl).later HB4.out).get (j:=3) rfl) (fun e=> by have h5:w1.heap.size=xb:=e;have h6:=HNX.out.lo.2.1;have h7:=HJL.out;omega)
        have HNT:=Aa (fun(w':World)=> Zy (Bs nl sz) sn w' (by omega) hsn.2 hsn.1)
        have H1:=Aa h1
        have H2:=Aa h2
        have H3:=Aa h3
        have HDF:=Aa hdf
        have HDD:=Aa hD
        clear h1 h2 h3 hdf hD hpl
        generalize hnpq:Bs nl sz=np at *
        have HNPQ:=Aa hnpq
        clear hnpq
        go_upto_region 17 with (fail)
        refine wp_region_noPanic ?_
        refine Al (S:=(fun w'=> Below W.heap.size W w')) (E:= [12,13,14,15]) (by kernel_rfl) ?_ (fun hHeld=> ?_)
        ·(first | exact(Below.refl _ _).drew | exact hHeld.trans (b1.mono hHeld.size) | exact hHeld)
        try dsimp only [List.size_toArray,List.length_cons,List.length_nil,Nat.reduceAdd]
        refine hT 0 [[0], [0], [0], [0]] (v:=?_) rfl (by kernel_rfl) (by rfl) (by assumption) ?_ ?_
        rotate_left
        focus (intro w hSw;(try dsimp only at hSw);(have t0:=cell_later hSw q0;have t6:=cell_later hSw q6;have t4:=cell_later hSw q4);go_simp;try with_reducible rfl)
        refine hT 1 [[1], [1], [1], [1]] (v:=?_) rfl (by kernel_rfl) (by rfl) (by assumption) ?_ ?_
        rotate_left
        focus (intro w hSw;(try dsimp only at hSw);(have t0:=cell_later hSw q0;have t6:=cell_later hSw q6;have t4:=cell_later hSw q4);go_simp;try with_reducible rfl)
        refine hP 6 (v:=?_) rfl (by kernel_rfl) (by rfl) ?_ ?_
        rotate_left
        focus (intro w;go_simp;try with_reducible rfl)
        refine hP 2 (v:=?_) rfl (by kernel_rfl) (by rfl) ?_ ?_
        rotate_left
        focus (intro w;go_simp;try with_reducible rfl)
        refine hT 7 [[7], [7], [7], [7]] (v:=?_) rfl (by kernel_rfl) (by rfl) (by assumption) ?_ ?_
        rotate_left
        focus (intro w hSw;(try dsimp only at hSw);(have t0:=cell_later hSw q0;have t6:=cell_later hSw q6;have t4:=cell_later hSw q4);go_simp;try with_reducible rfl)
        refine hP 3 (v:=?_) rfl (by kernel_rfl) (by rfl) ?_ ?_
        rotate_left
        focus (intro w;go_simp;try with_reducible rfl)
        refine hT 4 [[4], [4], [4], [4]] (v:=?_) rfl (by kernel_rfl) (by rfl) (by assumption) ?_ ?_
        rotate_left
        focus (intro w hSw;(try dsimp only at hSw);(have t0:=cell_later hSw q0;have t6:=cell_later hSw q6;have t4:=cell_later hSw q4);go_simp;try with_reducible rfl)
        refine hP 5 (v:=?_) rfl (by kernel_rfl) (by rfl) ?_ ?_
        rotate_left
        focus (intro w;go_simp;try with_reducible rfl)
        try simp only [Act.put,List.setIfInBounds_toArray,List.set_cons_zero,List.set_cons_succ]
        refine hR [8] (by kernel_rfl) (by simp) (Ac.cons rfl (fun KH hKH=> ?_) .nil)
        go_simp
        (go_at_call 87;refine(HNT.out _).mono ?_;rintro e w6 ⟨kb,kpb,ksb,rfl,b1,kl1,kl2,kl3,kg1,kg2,hrt⟩)
        try go_wp2_with fail
        refine hKH.out _ _ ?_ (fun hNew=> ?_)
        ·(first | exact(Below.refl _ _).drew | exact hHeld.trans (b1.mono hHeld.size) | exact hHeld)
        clear hKH KH hHeld
        have hHeld:=hNew
        clear hNew
        try simp only [Act.put,List.setIfInBounds_toArray,List.set_cons_zero,List.set_cons_succ]
        refine hP 9 (v:=?_) rfl (by kernel_rfl) (by rfl) ?_ ?_
        rotate_left
        focus (intro w;go_simp;try with_reducible rfl)
        refine hP 10 (v:=?_) rfl (by kernel_rfl) (by rfl) ?_ ?_
        rotate_left
        focus (intro w;go_simp;try with_reducible rfl)
        refine hP 11 (v:=?_) rfl (by kernel_rfl) (by rfl) ?_ ?_
        rotate_left
        focus (intro w;go_simp;try with_reducible rfl)
        try simp only [Act.put,List.setIfInBounds_toArray,List.set_cons_zero,List.set_cons_succ]
        refine hR [12] (by kernel_rfl) (by simp) (Ac.Bb rfl (by kernel_rfl) (fun KH hKH=> ?_) .nil)
        have HBX:=Aa hHeld
        have hb6:=H1.out.later hHeld
        have s5:=hb6.get (j:=5) rfl
        have z5:=hb6.fz 5
        go_simp
        refine hKH.out _ _ ?_
        clear hKH KH
        try clear hHeld
        try simp only [Act.put,List.setIfInBounds_toArray,List.set_cons_zero,List.set_cons_succ]
        refine hR [13] (by kernel_rfl) (by simp) (Ac.Bb rfl (by kernel_rfl) (fun KH hKH=> ?_) .nil)
        go_simp
        refine hKH.out _ _ ?_
        clear hKH KH
        try clear hHeld
        try simp only [Act.put,List.setIfInBounds_toArray,List.set_cons_zero,List.set_cons_succ]
        refine hR [14] (by kernel_rfl) (by simp) (Ac.Bb rfl (by kernel_rfl) (fun KH hKH=> ?_) .nil)
        go_simp
        refine hKH.out _ _ ?_
        clear hKH KH
        try clear hHeld
        try simp only [Act.put,List.setIfInBounds_toArray,List.set_cons_zero,List.set_cons_succ]
        refine hR [15] (by kernel_rfl) (by simp) (Ac.Bb rfl (by kernel_rfl) (fun KH hKH=> ?_) .nil)
        go_simp
        refine hKH.out _ _ ?_
        clear hKH KH
        try clear hHeld
        refine Ak (by kernel_rfl) ?_ _
        refine NoPanic.normal ?_
        obtain⟨W6,hW6⟩:∃ W6,W6=w6.setCell ⟨xb,5,none⟩ (.pointer (some ⟨kb,0,none⟩)):=⟨_,rfl⟩
        have k6:Ab (fun q=> q=xb) w6 W6:=by rw [hW6];exact(Ab.refl (fun q=> q=xb) w6).setCell (p:=⟨xb,5,none⟩) rfl _
        have hxb6:Bk W6 xb [.int .i64 qn, .slice ro rs.length rc, .int .i64 fold, .bool early, .int .i64 sn, .pointer (some ⟨kb,0,none⟩), .slice va np vc, .slice (some ⟨ob,0,none⟩) sn sn, .map (some mb)]:=by rw [hW6];exact hb6.set (k:=5) (u:= .pointer none) _ rfl
        have hsz6:W6.heap.size=w6.heap.size:=by rw [hW6];simp [World.setCell]
        have hWw:=HBX.out.size
        have hw4W:=H3.out.size
        have hlo:=HNX.out.lo
        have hne:=HNX.out.ne
        have hww2:=HB2.out.size
        have hxlt:=hxl
        have hdrew:W.drew.heap.size=W.heap.size:=rfl
        have hkb:=hrt.bt
        rw [hdrew] at hkb kg1 kg2
        have hrt6:=hrt.kept k6 (by omega) (by omega) (by omega)
        have hpo6:Own 2 Ew 133 W6 w4.heap.size (.slice va np vc) ((E0 lo nl sz np).map partOf):=k6.own (H2.out.later HBX.out) fun q hq e=> by have:=(H2.out.lt q hq).1;omega
        have K46:Ab (fun q=> q=xb) w4 W6:=(H3.out.trans (Ab.Ai HBX.out (Nat.le_refl _))).trans k6
        have B26:Below w2.heap.size w2 W6:=(HNX.out.bl.trans (HB4.out.mono HNX.out.bl.size)).trans (K46.below (fun q hq=> by omega) (Nat.le_trans HNX.out.bl.size HB4.out.size))
        have B16:Below w1.heap.size w1 W6:=HB12.out.trans (B26.mono HB12.out.size)
        have Bw6:Below w.heap.size w W6:=HB2.out.trans (B26.mono HB2.out.size)
        have hos6:=K46.own HX4.out.os fun q hq e=> by cases hq;exact hne.2.2.2.1 e.symm
        have hmp6:=HX4.out.mp.kept K46 fun e=> hne.2.2.2.2.1 e.symm
        have hjs6:=HJS1.out.kept (Ab.Ai (S:=fun _=> False) B16 (Nat.le_refl _)) fun _ _ h=> h
        have hsl6:=HSL.out.later B26 (Nat.le_refl _)
        have htb6:=HX4.out.bt.kept K46 hne.1
        have hD6:W6.heap[D]?=some (.deferred (some [])):=by
         have hDl:=(Array.getElem?_eq_some_iff.1 HDF.out).1
         have hDD:=HDD.out
         rw [k6.block D (by omega) (by omega),HBX.out.block D hDl]
         exact HDF.out
        have hDl:D < W.heap.size:=(Array.getElem?_eq_some_iff.1 HDF.out).1
        have hDp:(Value.slice va np vc).ownBlock≠some D:=fun e=> by
         obtain⟨o,ho1,ho2⟩:=H2.out.cells e
         rw [HDF.out] at ho1
         cases ho1
         cases ho2
        have hpbW:∀ q,(Value.slice va np vc).ownBlock=some q→w4.heap.size≤q∧q < W.heap.size:=fun q hq=> H2.out.lt q hq
        rw [←hW6]
        clear hW6 s5 z5 hb6 b1 HNT hrt
        obtain⟨own',hown'⟩:∃ own',own'=Mu own w.heap.size w2.heap.size F.Af.length xb ob mb (Value.slice va np vc).ownBlock kb kpb ksb:=⟨_,rfl⟩
        have hw12:w1.heap.size≤w2.heap.size:=HB12.out.size
        have hw01:w.heap.size≤w1.heap.size:=HB1.out.size
        have hcw4:wc.heap.size≤w4.heap.size:=HB4.out.size
        have hobc:ob < wc.heap.size:=(HNX.out.os.lt ob rfl).2
        have hmbc:mb < wc.heap.size:=HNX.out.mp.lt
        have hold:∀ q,q < w.heap.size→own' q=own q:=fun q hq=> by rw [hown'];exact if_pos hq
        have hfix:∀ q,w.heap.size≤q→q < w2.heap.size→own' q= .Kq:=fun q h1 h2=> by rw [hown'];unfold Mu;rw [if_neg (by omega),if_pos h2]
        have o1:own' xb= .one F.Af.length:=by rw [hown'];unfold Mu;rw [if_neg (by omega),if_neg (by omega),if_pos rfl]
        have o4:own' ob= .outs F.Af.length:=by rw [hown'];unfold Mu;rw [if_neg (by omega),if_neg (by omega),if_neg (by omega),if_pos rfl]
        have o5:own' mb= .saved F.Af.length:=by rw [hown'];unfold Mu;rw [if_neg (by omega),if_neg (by omega),if_neg (by omega),if_neg (by omega),if_pos rfl]
        have o3:∀ q,(Value.slice va np vc).ownBlock=some q→own' q= .parts F.Af.length:=fun q hq=> by
         have h5:=hpbW q hq
         rw [hown'];unfold Mu;rw [if_neg (by omega),if_neg (by omega),if_neg (by omega),if_neg (by omega),if_neg (by omega),if_pos hq]
        have htk:∀ q,W.heap.size≤q→(q=kb∨q=kpb∨q=ksb)→own' q= .Mc F.Af.length:=fun q h1 h2=> by
         rw [hown'];unfold Mu;rw [if_neg (by omega),if_neg (by omega),if_neg (by omega),if_neg (by omega),if_neg (by omega),if_neg (fun e=> by have:=(hpbW q e).2;omega),if_pos h2]
        have hout:∀ q,w2.heap.size≤q→q≠xb→q≠ob→q≠mb→(Value.slice va np vc).ownBlock≠some q→(q < W.heap.size∨w6.heap.size≤q)→own' q= .out:=fun q h1 h2 h3 h4 h5 h6=> by
         rw [hown'];unfold Mu;rw [if_neg (by omega),if_neg (by omega),if_neg h2,if_neg h3,if_neg h4,if_neg h5,if_neg (by omega)]
        have h6:B8 w0 W6 own' G F:=(HH.out.later Bw6).re (fun q hq=> hold q (HH.out.lt hq)) fun q hq=> by
         have hb0:=HH.out.E5.size
         by_cases hq1:q < w.heap.size
         ·rw [hold q hq1] at hq
          have:=HH.out.lo q hq
          omega
         ·refine⟨by omega,?_⟩
          rcases Nat.lt_or_ge q W6.heap.size with h7 | h7
          ·exact h7
          ·exact absurd (hout q (by omega) (by omega) (by omega) (by omega) (fun e=> by have:=(hpbW q e).2;omega) (.inr (by omega))) hq
        have hlen:((Jg inp).map tx).length=nl:=by rw [List.length_map,HNL.out]
        have hc:∃ g,g.xb=xb∧Fh w0 W6 own' F.Af.length g (Dq qn (rs.map Ao.v) fold sn early ((Jg inp).map tx) sz):=by
         have hb0:=HH.out.E5.size
         have hnp:Bs ((Jg inp).map tx).length sz=np:=by rw [hlen];exact HNPQ.out
         have:=Am5 (w0:=w0) (W:=W6) (own:=own') (n:=F.Af.length) (xb:=xb) (ob:=ob) (mb:=mb) (kb:=kb) (kpb:=kpb) (ksb:=ksb) (nb:=w1.heap.size) (qn:=qn) (sn:=sn) (sz:=sz) (ro:=ro) (lo:=lo) (rc:=rc) (rs:=rs) (fold:=fold) (early:=early) (va:=va) (vc:=vc) (lines:=(Jg inp).map tx)
          (by rw [hnp];exact hxb6) (by rw [hnp];exact hrt6.B6 (by omega)) (by rw [hnp,hlen];exact hpo6.B6 (by omega)) (hos6.B6 (by omega)) hmp6
          (hjs6.mono fun q hq=> ⟨hfix q hq.1 (by omega),hq.2⟩) B16.size hsl6 hsz60.1 o1 ⟨htk kb hkb (.inl rfl),htk kpb kg1 (.inr (.inl rfl)),htk ksb kg2 (.inr (.inr rfl))⟩ (by rw [hnp];exact o3) o4 o5 (fun b o e=> by
           have h7:=HLB.out b o e
           have h8:=HBW.out.size
           exact hfix b (by omega) h7.2)
         exact⟨_,rfl,this⟩
        obtain⟨g,hgx,hc⟩:=hc
        have hjo:=h6.jo
        have hojs:=h6.oj
        have c3':=h6.bk.get (j:=3) rfl
        rw [HEJ.out] at hjo c3' hojs
        have q14:=htb6.get (j:=0) rfl
        have otb:own' tb= .out:=hout tb hlo.1 hne.1 hne.2.1 hne.2.2.1 (fun e=> by have:=(hpbW tb e).1;omega) (.inl (by omega))
        have oD:own' D= .out:=hout D (by have:=HDD.out;omega) (by have:=HDD.out;omega) (by have:=HDD.out;omega) (by have:=HDD.out;omega) hDp (.inl hDl)
        have HNT:Hid (¬ (Value.slice ja F.Af.length jc).ownBlock=some tb):=fun e=> by rw [hojs tb e] at otb;cases otb
        have HNF:Hid (¬ (Value.slice ja F.Af.length jc).ownBlock=some G.fb):=fun e=> by have h8:=h6.oh;rw [hojs _ e] at h8;cases h8
        have HLE:Hid ((G.jg.map Ec.xb).length+1≤1000000000):=by
         show _≤_
         rw [List.length_map,h6.jn]
         omega
        have HB0:Hid (w0.heap.size≤W6.heap.size):=h6.E5.size
        obtain⟨i2,hi2,hy0,hy1,hy2⟩:=info_parts Adn
        have HJO:=Aa hjo
        have H6:=Aa h6
        have HC:=Aa hc
        have HOLD:=Aa hold
        have HD6:=Aa hD6
        have HODJ:=Aa (And.intro oD hojs)
        have HBW6:=Aa Bw6
        have HGX:=Aa hgx
        have HDG:Hid (w.heap.size≤D):=by have:=HDD.out;show _≤_;omega
        clear hjo hc h6 hojs oD otb hold hD6 Bw6 hgx hlen hfix o1 o3 o4 o5 htk hout hxb6 hrt6 hpo6 K46 B26 B16 hos6 hmp6 hjs6 hsl6 htb6 hDl hDp hpbW hobc hmbc k6 hkb kg1 kg2 kl1 kl2 kl3 hown' hw12 hw01 hcw4 hsz6 hWw hw4W hlo hne hww2 hxlt hdrew q0 q6 q4 hnc k1 k2 hs4
        go_upto_region 19 with (fail)
        refine wp_region_noPanic ?_
        refine Al (S:=(fun w'=> Ab (fun q=> (Value.slice ja F.Af.length jc).ownBlock=some q) W6 w')) (E:= [10]) (by kernel_rfl) ?_ (fun hHeld=> ?_)
        ·(first | exact(Ab.refl _ _).drew | exact hHeld.trans (Ab.A9 hgr fun q e=> e) | exact hHeld.alloc _ | exact hHeld)
        try dsimp only [List.size_toArray,List.length_cons,List.length_nil,Nat.reduceAdd]
        refine hP 0 (v:=?_) rfl (by kernel_rfl) (by rfl) ?_ ?_
        rotate_left
        focus (intro w;go_simp;try with_reducible rfl)
        refine hP 1 (v:=?_) rfl (by kernel_rfl) (by rfl) ?_ ?_
        rotate_left
        focus (intro w;go_simp;try with_reducible rfl)
        refine hT 5 [[5]] (v:=?_) rfl (by kernel_rfl) (by rfl) (by assumption) ?_ ?_
        rotate_left
        focus (intro w hSw;(try dsimp only at hSw);(have t3:=hSw.cell c3' HNF.out;have t14:=hSw.cell q14 HNT.out);go_simp;try with_reducible rfl)
        refine hP 2 (v:=?_) rfl (by kernel_rfl) (by rfl) ?_ ?_
        rotate_left
        focus (intro w;go_simp;try with_reducible rfl)
        refine hP 3 (v:=?_) rfl (by kernel_rfl) (by rfl) ?_ ?_
        rotate_left
        focus (intro w;go_simp;try with_reducible rfl)
        refine hT 4 [[4]] (v:=?_) rfl (by kernel_rfl) (by rfl) (by assumption) ?_ ?_
        rotate_left
        focus (intro w hSw;(try dsimp only at hSw);(have t3:=hSw.cell c3' HNF.out;have t14:=hSw.cell q14 HNT.out);go_simp;try with_reducible rfl)
        try simp only [Act.put,List.setIfInBounds_toArray,List.set_cons_zero,List.set_cons_succ]
        refine hR [6] (by kernel_rfl) (by simp) (Ac.cons rfl (fun KH hKH=> ?_) .nil)
        go_simp
        refine hKH.out _ _ ?_ (fun hNew=> ?_)
        ·(first | exact(Ab.refl _ _).drew | exact hHeld.trans (Ab.A9 hgr fun q e=> e) | exact hHeld.alloc _ | exact hHeld)
        clear hKH KH hHeld
        have hHeld:=hNew
        clear hNew
        try simp only [Act.put,List.setIfInBounds_toArray,List.set_cons_zero,List.set_cons_succ]
        refine hR [7] (by kernel_rfl) (by simp) (Ac.cons rfl (fun KH hKH=> ?_) .nil)
        refine Cs (enc:=Of) Og _ _ 88 i2 _ rfl rfl Tryz.underlying88 hi2 hy0 hy1 hy2 rfl (by decide) (by decide) (HJO.out.later ((Below.refl W6.heap.size W6).drew.alloc (Nat.le_refl _) _)) (Below.refl _ _) (Nat.le_trans HB0.out hHeld.size) HLE.out rfl xb ⟨W6.heap.size,0,none⟩ 1 rfl (Fc rfl rfl) (by intro u hu;simp [Of] at hu;subst hu;rfl) ?_
        intro v' w7 ho _ hgr hat
        obtain⟨ja',jc',rfl⟩:=id ho.1
        have hb7:=(H6.out.bk.later ((Below.refl W6.heap.size W6).drew.alloc (Nat.le_refl _) _)).kept (Ab.A9 hgr fun q e=> e) HNF.out
        have s3:=hb7.get (j:=3) rfl
        rw [HEJ.out] at s3
        have z3:=hb7.fz 3
        have HAT:=Aa hat
        have HO7:=Aa ho
        have K67:=Aa ((Ab.Ai (S:=fun q=> (Value.slice ja F.Af.length jc).ownBlock=some q) ((Below.refl W6.heap.size W6).drew.alloc (Nat.le_refl _) _) (Nat.le_refl _)).trans (Ab.A9 hgr fun q e=> e))
        clear ho hat hb7
        refine hKH.out _ _ ?_ (fun hNew=> ?_)
        ·(first | exact(Ab.refl _ _).drew | exact hHeld.trans (Ab.A9 hgr fun q e=> e) | exact hHeld.alloc _ | exact hHeld)
        clear hKH KH hHeld
        have hHeld:=hNew
        clear hNew
        try simp only [Act.put,List.setIfInBounds_toArray,List.set_cons_zero,List.set_cons_succ]
        refine hR [8] (by kernel_rfl) (by simp) (Ac.cons rfl (fun KH hKH=> ?_) .nil)
        go_simp
        refine hKH.out _ _ ?_ (fun hNew=> ?_)
        ·(first | exact(Ab.refl _ _).drew | exact hHeld.trans (Ab.A9 hgr fun q e=> e) | exact hHeld.alloc _ | exact hHeld)
        clear hKH KH hHeld
        have hHeld:=hNew
        clear hNew
        try simp only [Act.put,List.setIfInBounds_toArray,List.set_cons_zero,List.set_cons_succ]
        refine hR [9] (by kernel_rfl) (by simp) (Ac.cons rfl (fun KH hKH=> ?_) .nil)
        go_simp
        refine hKH.out _ _ ?_ (fun hNew=> ?_)
        ·(first | exact(Ab.refl _ _).drew | exact hHeld.trans (Ab.A9 hgr fun q e=> e) | exact hHeld.alloc _ | exact hHeld)
        clear hKH KH hHeld
        have hHeld:=hNew
        clear hNew
        try simp only [Act.put,List.setIfInBounds_toArray,List.set_cons_zero,List.set_cons_succ]
        refine hR [10] (by kernel_rfl) (by simp) (Ac.Bb rfl (by kernel_rfl) (fun KH hKH=> ?_) .nil)
        go_simp
        refine hKH.out _ _ ?_
        clear hKH KH
        try clear hHeld
        refine Ak (by kernel_rfl) ?_ _
        refine NoPanic.normal ?_
        go_wp2_with fail
        have hDj:¬ (Value.slice ja F.Af.length jc).ownBlock=some D:=fun e=> by have h8:=HODJ.out.2 D e;rw [HODJ.out.1] at h8;cases h8
        have hDl:D < W6.heap.size:=(Array.getElem?_eq_some_iff.1 HD6.out).1
        have hDf:D≠G.fb:=fun e=> by have h8:=HODJ.out.1;rw [e,HOLD.out _ (HH.out.lt (q:=G.fb) (by rw [HH.out.oh];simp)),HH.out.oh] at h8;cases h8
        refine Ac1 (D:=D) (v:= .nilIface) rfl ?_ (by simp [results,Tryz.results51,go_sem]) ?_
        ·exact(((Ab.refl (fun q=> q=G.fb) w7).setCell (p:=⟨G.fb,3,none⟩) rfl _).block D (Nat.lt_of_lt_of_le hDl K67.out.size) hDf).trans ((K67.out.block D hDl hDj).trans HD6.out)
        ·have hat:=HAT.out
         have ho:=HO7.out
         rw [←HGX.out] at ho hat
         rw [HTK.out]
         refine⟨rfl,?_⟩
         rw [show(G.jg.map Ec.xb++ [g.xb]).length=G.jg.length+1 by simp] at ho hat
         exact Alk HH.out HBW6.out H6.out HC.out HOLD.out HODJ.out.1 HDG.out hDl (by rw [HEJ.out];exact HODJ.out.2) (by rw [HEJ.out];exact K67.out) ho (by rw [HEJ.out];exact hat) (Nat.le_of_lt (by show W6.heap.size < (W6.heap.push _).size;rw [Array.size_push];omega))
end
end Go.Proofs.YtbibeionenjmfaaGreatDoor
namespace Go.Proofs.YtbibeionenjmfaaGreatDoor
open Go.RowKit
theorem Gh {α:Type} {sz:Nat} {enc:α→List Value} {e:TypeId} {w:World} {n:Nat} {cs:Array Value} {l:List α} (hsz:∀ x,(enc x).length=sz) (hn:n=w.heap.size) (hc:cs.toList=l.flatMap enc):Sl sz enc (w.alloc (.cells cs e)) (some ⟨n,0,none⟩) l:=by
 subst hn;exact Sl.lit hsz (B3 _ _) hc
theorem Sl.N4 {α:Type} {sz:Nat} {enc:α→List Value} {w:World} {a:Option Addr} {l:List α} (h:Sl sz enc w a l) (o:Obj):Sl sz enc (w.alloc o) a l:=h.later (ba w o) (Nat.le_refl _)
theorem Sj (F:Ad) (q:Int) (prog inp:List UInt8) (size:Int):((Fv F q prog inp size).1≠0∧(Fv F q prog inp size).2=F)∨
 ((Fv F q prog inp size).1=0∧(0≤q∧q < F.Aj.length)∧(1≤size∧size≤60)∧(Fv F q prog inp size).2.Af.length=F.Af.length+1∧(Fv F q prog inp size).2.log=F.log):=by
 unfold Fv
 by_cases h1:q < 0∨(F.Aj.length:Int)≤q
 ·rw [if_pos h1];exact .inl ⟨by simp,rfl⟩
 ·rw [if_neg h1]
  by_cases h2:F.Af.length=6
  ·rw [if_pos h2];exact .inl ⟨by simp,rfl⟩
  ·rw [if_neg h2]
   cases Nu prog with
   | none=> refine .inl ⟨?_,rfl⟩;dsimp only;unfold Xa;split <;> simp
   | some x=>
     obtain⟨rv,fold,slices,early⟩:=x
     dsimp only
     by_cases h3:N6 inp≠0
     ·rw [if_pos h3];exact .inl ⟨h3,rfl⟩
     ·rw [if_neg h3]
      by_cases h4:size < 1∨60 < size
      ·rw [if_pos h4];exact .inl ⟨by simp,rfl⟩
      ·rw [if_neg h4];exact .inr ⟨rfl,⟨by omega,by omega⟩,⟨by omega,by omega⟩,by simp,rfl⟩
theorem S4 {k:ByteArray} {N:List Int} {T:List ByteArray} (hk:k.size≤1000000) (hN:Ahi N) (hNl:N.length≤10000) (hTl:T.length≤10000) (hT:∀ t∈T,t.size≤10000000):(tx (Kc (k,N,T))).size≤110000000000:=by
 have h1:=Kw N hN
 have h2:=Kw (C8 T) (Sh hT)
 have h3:=Nj T hT
 have h4:(C8 T).length=T.length:=by simp [C8]
 have h5:k.data.toList.length=k.size:=Fw _
 rw [Am]
 unfold Kc
 simp only [List.length_append,List.length_cons,List.length_nil]
 omega
theorem Py {w0 w w1 w3:World} {own own1:Nat→Ez} {G G1:Bg} {F1:Ad} {v:Value} (hfb:G1.fb=G.fb) (ho:own G.fb= .hd) (ha:∀ q,q < w.heap.size→own1 q=own q) (k1:Ab (fun q=> own q≠ .out) w w1) (b3:Below w1.heap.size w1 w3) (hv:w3.cell? ⟨G1.fb,3,none⟩=some v) (h:B8 w0 w3 own1 G1 F1) (l:List UInt8):
 (w3.setCell ⟨G1.fb,4,none⟩ (.string (tx l))).cell? ⟨G1.fb,3,none⟩=some v∧Bu w0 w own G {F1 with log:=l} (w3.setCell ⟨G1.fb,4,none⟩ (.string (tx l))):=by
 have hl:=h.Ao5 l
 have k:Ab (fun q=> q=G1.fb) w3 (w3.setCell ⟨G1.fb,4,none⟩ (.string (tx l))):=(Ab.refl (fun q=> q=G1.fb) w3).setCell (p:=⟨G1.fb,4,none⟩) rfl _
 refine⟨?_,⟨own1,G1,hl,hfb,ha⟩,(k1.more (Ab.Ai (S:=fun _=> False) b3 (Nat.le_refl _)) fun _ e=> e.elim).more k fun q hq=> .inl (by rw [hq,hfb,ho];simp)⟩
 exact(World.cell?_setCell_other w3 _ _ _ (by simp)).trans hv
section
variable {w0 w w' W:World} {own own':Nat→Ez} {G:Bg} {F F':Ad}
set_option maxRecDepth 100000 in
set_option maxHeartbeats 4000000 in
theorem Md (q size:Int) (prog inp:List UInt8) (h:B8 w0 w own G F) (hi:InvC F) (hlg:F.log.length≤1000000000000000000) (hpl:prog.length≤100000) (hil:inp.length≤1000000) (hsz:size≤9223372036854775807):
 Calls Tryz.prog 21 #[.pointer (some ⟨G.fb,0,none⟩), .int .i64 q, .string (tx prog), .string (tx inp), .int .i64 size] w fun e w'=> e= .returned (.tuple #[.int .i64 (Dm F q prog inp size).1.1,Du (Dm F q prog inp size).1.2])∧Bu w0 w own G (Dm F q prog inp size).2 w':=by
 have HT:=Aa (Agj q size prog inp h hi hpl hil hsz)
 have HH:=Aa h
 have HLG:=Aa hlg
 have HO:=Aa h.oh
 have HPL:=Aa hpl
 have HIL:=Aa hil
 clear h hlg
 go_enter Tryz.func21,Tryz.ntmps21
 go_wp2_with fail
 refine HT.out.mono ?_
 rintro e w1 ⟨rfl,ht⟩
 have HSU:Hid (Dm F q prog inp size=if (Fv F q prog inp size).1≠0 then((0,(Fv F q prog inp size).1),F) else(((F.Af.length:Int),0),{(Fv F q prog inp size).2 with log:=F.log++Kc (tx Ua, [q,size], [tx prog,tx inp])})):=rfl
 have HTC:=Aa (Sj F q prog inp size)
 clear HT
 generalize Fv F q prog inp size=r at *
 obtain⟨er,F1⟩:=r
 dsimp only at ht HSU HTC ⊢
 rcases HTC.out with ⟨h1,rfl⟩ | ⟨rfl,h2,h3,h4,h5⟩
 ·rw [if_pos h1] at HSU
  rw [Ar h1]
  have HE:Hid (Du er= .iface 91 (.int .i64 er)):=Ar h1
  have HT1:=Aa ht
  clear ht hsz
  go_wp2
  exact bodyPost_ret (v:= .tuple #[.int .i64 0, .iface 91 (.int .i64 er)]) (by simp [results,Tryz.results21,go_sem]) rfl ⟨by rw [HSU.out,HE.out],by rw [HSU.out];exact HT1.out⟩
 ·rw [if_neg (by simp)] at HSU
  rw [A3]
  obtain⟨⟨own1,G1,hf,hfb,hag⟩,k1⟩:=ht
  rw [←hfb]
  have c4:=hf.bk.get (j:=4) rfl
  have c3:=hf.bk.get (j:=3) rfl
  rw [h5] at c4
  have hj:=hf.Xd
  obtain⟨ja,jc,ej,_⟩:=hj
  rw [ej,h4] at c3
  have z4:=hf.bk.fz 4
  have hq4:=(Afs hi.qs).1
  have HI6:Hid (Ahi [q,size]):=by
   intro x hx
   simp at hx
   rcases hx with rfl | rfl <;> constructor <;> omega
  have HT6:Hid (∀ t∈ [tx prog,tx inp],t.size≤10000000):=by
   intro t ht
   simp at ht
   rcases ht with rfl | rfl <;> rw [Am] <;> omega
  have HJT:=Aa fun(w':World) (k:Below w1.heap.size w1 w') (na ta:Option Addr) (hs1:Sl 1 Fj w' na [q,size]) (hs2:Sl 1 Cm w' ta [tx prog,tx inp])=> Wf (tx Ua) na 2 [q,size] ta 2 [tx prog,tx inp] w' (hf.gwl.later k (Nat.le_refl _)) (by decide) (by simp) (by simp) HI6.out HT6.out hs1 hs2 (by simp)
  have HF:=Aa hf
  have EJ:=Aa ej
  have HJL:=Aa h4
  have HLG1:=Aa h5
  have hjb:F.Af.length+1≤1000:=by have:=hi.jl;omega
  have hjw:IntKind.i64.wrap (((F.Af.length+1:Nat):Int) - 1)=(F.Af.length:Int):=by
   rw [show(((F.Af.length+1:Nat):Int) - 1)=(F.Af.length:Int) by omega]
   exact IntWalk.i64_in _ (by omega)
  have HK1:=Aa k1
  have HAG:=Aa hag
  have HFB:=Aa hfb
  clear hf k1 hag hfb h2 h3 h4 h5 ej hsz hpl hil hi
  have hcat:¬ 9223372036854775807 < (tx F.log).size+(tx (Kc (tx Ua, [q,size], [tx prog,tx inp]))).size:=by
   have h6:=S4 (k:=tx Ua) (N:= [q,size]) (T:= [tx prog,tx inp]) (by decide) HI6.out (by simp) (by simp) HT6.out
   have h7:=HLG.out
   rw [Am (l:=F.log)]
   omega
  have HLQ:Hid (tx F.log++tx (Kc (tx Ua, [q,size], [tx prog,tx inp]))=tx (F.log++Kc (tx Ua, [q,size], [tx prog,tx inp]))):=by
   show _=_
   apply Dc
   rw [tl,tl,Ap]
   simp [tx,ByteArray.data_append]
  clear HI6 HT6 hq4
  generalize Kc (tx Ua, [q,size], [tx prog,tx inp])=en at *
  obtain⟨lg,hlg⟩:∃ lg,lg=tx F.log:=⟨_,rfl⟩
  obtain⟨ent,hent⟩:∃ ent,ent=tx en:=⟨_,rfl⟩
  rw [←hlg,←hent] at hcat HLQ
  rw [←hlg] at c4
  rw [←hent] at HJT
  clear hlg hent
  go_upto_region 4 with (fail)
  refine wp_region_noPanic ?_
  refine Al (S:=(fun w'=> Below w1.heap.size w1 w')) (E:= [15]) (by kernel_rfl) ?_ (fun hHeld=> ?_)
  ·(first | exact(Below.refl _ _).drew | exact hHeld.alloc hHeld.size _ | exact hHeld.trans (b3.mono hHeld.size) | exact hHeld)
  try dsimp only [List.size_toArray,List.length_cons,List.length_nil,Nat.reduceAdd]
  refine hP 0 (v:=?_) rfl (by kernel_rfl) (by rfl) ?_ ?_
  rotate_left
  focus (intro w;go_simp;try with_reducible rfl)
  refine hP 4 (v:=?_) rfl (by kernel_rfl) (by rfl) ?_ ?_
  rotate_left
  focus (intro w;go_simp;try with_reducible rfl)
  refine hP 5 (v:=?_) rfl (by kernel_rfl) (by rfl) ?_ ?_
  rotate_left
  focus (intro w;go_simp;try with_reducible rfl)
  refine hP 7 (v:=?_) rfl (by kernel_rfl) (by rfl) ?_ ?_
  rotate_left
  focus (intro w;go_simp;try with_reducible rfl)
  refine hP 8 (v:=?_) rfl (by kernel_rfl) (by rfl) ?_ ?_
  rotate_left
  focus (intro w;go_simp;try with_reducible rfl)
  refine hP 1 (v:=?_) rfl (by kernel_rfl) (by rfl) ?_ ?_
  rotate_left
  focus (intro w;go_simp;try with_reducible rfl)
  refine hP 2 (v:=?_) rfl (by kernel_rfl) (by rfl) ?_ ?_
  rotate_left
  focus (intro w;go_simp;try with_reducible rfl)
  refine hT 3 [[3]] (v:=?_) rfl (by kernel_rfl) (by rfl) (by assumption) ?_ ?_
  rotate_left
  focus (intro w hSw;(try dsimp only at hSw);(have t3:=cell_later hSw c4);go_simp;try with_reducible rfl)
  try simp only [Act.put,List.setIfInBounds_toArray,List.set_cons_zero,List.set_cons_succ]
  refine hR [6,9] (by kernel_rfl) (by simp) (Ac.cons rfl (fun KH hKH=> ?_) (Ac.cons rfl (fun KH hKH=> ?_) .nil))
  ·go_simp
   refine hKH.out _ _ ?_ (fun hNew=> ?_)
   ·(first | exact(Below.refl _ _).drew | exact hHeld.alloc hHeld.size _ | exact hHeld.trans (b3.mono hHeld.size) | exact hHeld)
   clear hKH KH hHeld
   have hHeld:=hNew
   clear hNew
   try simp only [Act.put,List.setIfInBounds_toArray,List.set_cons_zero,List.set_cons_succ]
   refine hR [9] (by kernel_rfl) (by simp) (Ac.cons rfl (fun KH hKH=> ?_) .nil)
   go_simp
   refine hKH.out _ _ ?_ (fun hNew=> ?_)
   ·(first | exact(Below.refl _ _).drew | exact hHeld.alloc hHeld.size _ | exact hHeld.trans (b3.mono hHeld.size) | exact hHeld)
   clear hKH KH hHeld
   have hHeld:=hNew
   clear hNew
   try simp only [Act.put,List.setIfInBounds_toArray,List.set_cons_zero,List.set_cons_succ]
   refine hP 10 (v:=?_) rfl (by kernel_rfl) (by rfl) ?_ ?_
   rotate_left
   focus (intro w;go_simp;try with_reducible rfl)
   try simp only [Act.put,List.setIfInBounds_toArray,List.set_cons_zero,List.set_cons_succ]
   refine hR [11] (by kernel_rfl) (by simp) (Ac.cons rfl (fun KH hKH=> ?_) .nil)
   go_simp
   (go_at_call 52;refine(HJT.out _ (by assumption) _ _ (by repeat (first | exact Gh D5 (by simp) rfl | refine Sl.N4 ?_ _)) (by repeat (first | exact Gh Cc (by simp) rfl | refine Sl.N4 ?_ _))).mono ?_;rintro e w3 ⟨rfl,b3⟩)
   refine hKH.out _ _ ?_ (fun hNew=> ?_)
   ·(first | exact(Below.refl _ _).drew | exact hHeld.alloc hHeld.size _ | exact hHeld.trans (b3.mono hHeld.size) | exact hHeld)
   clear hKH KH hHeld
   have hHeld:=hNew
   clear hNew
   try simp only [Act.put,List.setIfInBounds_toArray,List.set_cons_zero,List.set_cons_succ]
   refine hP 12 (v:=?_) rfl (by kernel_rfl) (by rfl) ?_ ?_
   rotate_left
   focus (intro w;go_simp;try with_reducible rfl)
   refine hP 13 (v:=?_) rfl (by kernel_rfl) (by rfl) ?_ ?_
   rotate_left
   focus (intro w;go_simp;try with_reducible rfl)
   refine hP 14 (v:=?_) rfl (by kernel_rfl) (by rfl) ?_ ?_
   rotate_left
   focus (intro w;go_simp;try with_reducible rfl)
   try simp only [Act.put,List.setIfInBounds_toArray,List.set_cons_zero,List.set_cons_succ]
   refine hR [15] (by kernel_rfl) (by simp) (Ac.Bb rfl (by kernel_rfl) (fun KH hKH=> ?_) .nil)
   have h9:=HF.out.later hHeld
   have HB3:=Aa hHeld
   have s4:=h9.bk.get (j:=4) rfl
   have z9:=h9.bk.fz 4
   have s3:=h9.bk.get (j:=3) rfl
   rw [EJ.out,HJL.out] at s3
   have H9:=Aa h9
   have HLF:=Aa s3
   clear h9 b3 HF HJT
   go_simp
   refine hKH.out _ _ ?_
   clear hKH KH
   try clear hHeld
   refine Ak (by kernel_rfl) ?_ _
   refine NoPanic.normal ?_
   obtain⟨W9,hW9⟩:∃ W9,W9=w3.setCell ⟨G1.fb,4,none⟩ (.string (lg++ent)):=⟨_,rfl⟩
   have hfin:=Py HFB.out HO.out HAG.out HK1.out HB3.out HLF.out H9.out (F.log++en)
   rw [←HLQ.out,←hW9] at hfin
   rw [←hW9]
   have s3':=hfin.1
   have HFIN:=Aa hfin.2
   clear hW9 hfin
   go_wp2
   exact bodyPost_ret (v:= .tuple #[.int .i64 F.Af.length, .nilIface]) (by simp [results,Tryz.results21,go_sem,hjw]) rfl ⟨by rw [HSU.out];rfl,by rw [HSU.out];exact HFIN.out⟩
  ·go_simp
   refine hKH.out _ _ ?_ (fun hNew=> ?_)
   ·(first | exact(Below.refl _ _).drew | exact hHeld.alloc hHeld.size _ | exact hHeld.trans (b3.mono hHeld.size) | exact hHeld)
   clear hKH KH hHeld
   have hHeld:=hNew
   clear hNew
   try simp only [Act.put,List.setIfInBounds_toArray,List.set_cons_zero,List.set_cons_succ]
   refine hR [6] (by kernel_rfl) (by simp) (Ac.cons rfl (fun KH hKH=> ?_) .nil)
   go_simp
   refine hKH.out _ _ ?_ (fun hNew=> ?_)
   ·(first | exact(Below.refl _ _).drew | exact hHeld.alloc hHeld.size _ | exact hHeld.trans (b3.mono hHeld.size) | exact hHeld)
   clear hKH KH hHeld
   have hHeld:=hNew
   clear hNew
   try simp only [Act.put,List.setIfInBounds_toArray,List.set_cons_zero,List.set_cons_succ]
   refine hP 10 (v:=?_) rfl (by kernel_rfl) (by rfl) ?_ ?_
   rotate_left
   focus (intro w;go_simp;try with_reducible rfl)
   try simp only [Act.put,List.setIfInBounds_toArray,List.set_cons_zero,List.set_cons_succ]
   refine hR [11] (by kernel_rfl) (by simp) (Ac.cons rfl (fun KH hKH=> ?_) .nil)
   go_simp
   (go_at_call 52;refine(HJT.out _ (by assumption) _ _ (by repeat (first | exact Gh D5 (by simp) rfl | refine Sl.N4 ?_ _)) (by repeat (first | exact Gh Cc (by simp) rfl | refine Sl.N4 ?_ _))).mono ?_;rintro e w3 ⟨rfl,b3⟩)
   refine hKH.out _ _ ?_ (fun hNew=> ?_)
   ·(first | exact(Below.refl _ _).drew | exact hHeld.alloc hHeld.size _ | exact hHeld.trans (b3.mono hHeld.size) | exact hHeld)
   clear hKH KH hHeld
   have hHeld:=hNew
   clear hNew
   try simp only [Act.put,List.setIfInBounds_toArray,List.set_cons_zero,List.set_cons_succ]
   refine hP 12 (v:=?_) rfl (by kernel_rfl) (by rfl) ?_ ?_
   rotate_left
   focus (intro w;go_simp;try with_reducible rfl)
   refine hP 13 (v:=?_) rfl (by kernel_rfl) (by rfl) ?_ ?_
   rotate_left
   focus (intro w;go_simp;try with_reducible rfl)
   refine hP 14 (v:=?_) rfl (by kernel_rfl) (by rfl) ?_ ?_
   rotate_left
   focus (intro w;go_simp;try with_reducible rfl)
   try simp only [Act.put,List.setIfInBounds_toArray,List.set_cons_zero,List.set_cons_succ]
   refine hR [15] (by kernel_rfl) (by simp) (Ac.Bb rfl (by kernel_rfl) (fun KH hKH=> ?_) .nil)
   have h9:=HF.out.later hHeld
   have HB3:=Aa hHeld
   have s4:=h9.bk.get (j:=4) rfl
   have z9:=h9.bk.fz 4
   have s3:=h9.bk.get (j:=3) rfl
   rw [EJ.out,HJL.out] at s3
   have H9:=Aa h9
   have HLF:=Aa s3
   clear h9 b3 HF HJT
   go_simp
   refine hKH.out _ _ ?_
   clear hKH KH
   try clear hHeld
   refine Ak (by kernel_rfl) ?_ _
   refine NoPanic.normal ?_
   obtain⟨W9,hW9⟩:∃ W9,W9=w3.setCell ⟨G1.fb,4,none⟩ (.string (lg++ent)):=⟨_,rfl⟩
   have hfin:=Py HFB.out HO.out HAG.out HK1.out HB3.out HLF.out H9.out (F.log++en)
   rw [←HLQ.out,←hW9] at hfin
   rw [←hW9]
   have s3':=hfin.1
   have HFIN:=Aa hfin.2
   clear hW9 hfin
   go_wp2
   exact bodyPost_ret (v:= .tuple #[.int .i64 F.Af.length, .nilIface]) (by simp [results,Tryz.results21,go_sem,hjw]) rfl ⟨by rw [HSU.out];rfl,by rw [HSU.out];exact HFIN.out⟩
end
end Go.Proofs.YtbibeionenjmfaaGreatDoor
namespace Go.Proofs.YtbibeionenjmfaaGreatDoor
open Go.RowKit
theorem It {F:Ad} {w k w' k':Nat} {t:Gb} (h:An F w' k'=some t) (x:Gb):∃ t',An (Au F w k x) w' k'=some t':=by
 rw [Ce]
 split
 ·next hc=>
  obtain⟨rfl,rfl⟩:=hc
  rw [h];exact⟨_,rfl⟩
 ·exact⟨_,h⟩
theorem Acg {F:Ad} {w k w' k':Nat} {many:Int} {t:Gb} (h:An F w' k'=some t):∃ t',An (Br F w k many) w' k'=some t':=by
 unfold Br
 split
 ·exact⟨_,h⟩
 ·next a _=>
  split
  ·exact⟨_,h⟩
  ·split
   ·exact⟨_,h⟩
   ·next p _=>
    dsimp only
    generalize (if 0 < many then a.at_+min many.toNat (p.many - a.at_) else a.at_)=n
    split
    ·exact It h _
    ·split
     ·exact It h _
     ·split
      ·exact It (k:=k) (w:=w) h Em
      ·exact It (k:=k) (w:=w) h Em
theorem Sp {F:Ad} {w w' k':Nat} {many:Int} {t:Gb} (h:An F w' k'=some t):∀ k,∃ t',An (A1 F w many k) w' k'=some t'
 | 0=> ⟨_,h⟩
 | k+1=> by
   obtain⟨t1,h1⟩:=Sp (w:=w) (many:=many) h k
   exact Acg h1
end Go.Proofs.YtbibeionenjmfaaGreatDoor
