/- The floor: Next. -/
import Derived.Test.YtbibeionenjmfaaGreatDoorZFlCount
import Derived.Test.YtbibeionenjmfaaGreatDoorZJParse
set_option linter.unusedSimpArgs false
set_option linter.unusedVariables false
namespace Go.Proofs.YtbibeionenjmfaaGreatDoor
open Go.RowKit
inductive Ez where
 | out
 | Kq
 | hd
 | Gp
 | runs
 | Af
 | one (n:Nat)
 | Mc (n:Nat)
 | parts (n:Nat)
 | outs (n:Nat)
 | saved (n:Nat)
 | run (a b:Nat)
deriving DecidableEq
structure Ec where
 xb:Nat
 ro:Option Addr
 rc:Nat
 rs:List Ao
 nb:Nat
 tb:Nat
 pb:Nat
 sb:Nat
 pv:Value
 pl:List (Value×Value)
 ob:Nat
 os:List ByteArray
 mb:Nat
 sf:Value→Option Value
structure Bg where
 fb:Nat
 qa:Option Addr
 qc:Nat
 bb:Nat
 lb:Nat
 cap:Nat
 rs:List Nat
 n:Nat
 mb:Nat
 rf:Value→Option Value
 jv:Value
 jg:List Ec
def Ew (p:Value×Value):List Value:= [p.1,p.2]
theorem Jt (p:Value×Value):(Ew p).length=2:=rfl
def Of (b:Nat):List Value:= [.pointer (some ⟨b,0,none⟩)]
theorem Og (b:Nat):(Of b).length=1:=rfl
def J6 (p:As):Int×Int:=(p.st,p.wh)
def D9 (a:Gb):A0:=(a.on,(a.t.1:Int),a.t.2.1,(a.t.2.2:Int))
def C9 (t:Ev):Value:= .agg #[.int .i64 t.1, .bool t.2.1, .int .i64 t.2.2]
def B7 (a b:Nat):Value:= .agg #[.int .i64 a, .int .i64 b]
def Aq (o:Ba) (i:Nat):List ByteArray:=(o.lines.drop (i * o.size)).take o.size
def chunks (o:Ba):List (List ByteArray):=(List.range ((o.lines.length+o.size - 1) / o.size)).map (Aq o)
def Cd (o:Ba) (k:Nat):List Pr:=Dz (given o.rs o.fold o.early o.slices (chunks o) k).flatten
def Oc (o:Ba) (fold:Bool) (i n:Nat) (s:ByteArray):Prop:=
 if fold=true then ∃ m,Fa o.fold (Cd o i) m n∧m≤(Cd o i).length∧s=tx (Gg m ((Ae o.fold (Cd o i)).take n)) else s=tx (Gg n (Bf o.rs o.fold ((Aq o i).take n)))
structure Wh (own:Nat→Ez) (w:World) (B ob:Nat) (vs:List Value) (ls:List (List Pr)):Prop where
 rws:O7 w B ob vs ls
 o1:own ob= .Kq
 o2:∀ v∈vs,∀ q,v.ownBlock=some q→own q= .Kq
theorem O7.Aa3 {w w':World} {base ob:Nat} {vs:List Value} {ls:List (List Pr)} {T:Nat→Prop} (h:O7 w base ob vs ls) (k:Ab T w w') (h1:¬ T ob) (h2:∀ v∈vs,∀ q,v.ownBlock=some q→¬ T q):O7 w' base ob vs ls:=
 ⟨h.bk.kept k h1,h.len,h.lo,fun i v l a b=> k.own (h.own i v l a b) fun q hq=> h2 v (List.mem_of_getElem? a) q hq,h.ne,h.apart⟩
theorem O7.B6 {w:World} {base base' ob:Nat} {vs:List Value} {ls:List (List Pr)} (h:O7 w base ob vs ls) (hb:base'≤base):O7 w base' ob vs ls:=
 ⟨h.bk,h.len,Nat.le_trans hb h.lo,fun i v l a b=> (h.own i v l a b).B6 hb,h.ne,h.apart⟩
theorem RT.B6 {w:World} {base base' tb pb sb:Nat} {ps ss:List (Int×Int)} (h:RT w base tb pb sb ps ss) (hb:base'≤base):RT w base' tb pb sb ps ss:=
 ⟨h.c0,h.c1,h.op.B6 hb,h.os.B6 hb,Nat.le_trans hb h.bt,h.d1,h.d2,h.d3,h.lp,h.ls,h.l1⟩
theorem BT.B6 {w:World} {base base' bb lb cap n:Nat} {rs:List Nat} {T:List (List A0)} (h:BT w base bb lb cap n rs T) (hb:base'≤base):BT w base' bb lb cap n rs T:=
 ⟨h.c0,h.ol.B6 hb,fun i r row a b=> (h.ow i r row a b).B6 hb,h.lt,Nat.le_trans hb h.bt,h.d1,h.d2,h.d3,h.lr,h.ln,h.l1,h.l2⟩
theorem Gv.Aa3 {w w':World} {B:Nat} {kind:Int} {L:List Pr} {c:Nat} {S LS T:Nat→Prop} {v:Value} (h:Gv w B kind L c S LS v) (k:Ab T w w') (hs:∀ q,S q→¬ T q) (hl:∀ q,LS q→¬ T q):Gv w' B kind L c S LS v:=by
 obtain⟨g,n,la,lc,va,e,h1,h2,h3,h4,h5,h6,h7⟩:=h
 exact⟨g,n,la,lc,va,e,⟨h1.bk.kept k (hs g h4),h1.lo,h1.sl.kept k fun b o e=> hl b (h6 b o e),k.own h1.own fun q e=> hs q (h5 q e),h1.apart,h1.O9⟩,h2,h3,h4,h5,h6,Nat.lt_of_lt_of_le h7 k.size⟩
structure JHd (w:World) (own:Nat→Ez) (n:Nat) (g:Ec) (o:Ba):Prop where
 bk:Bk w g.xb [.int .i64 o.queue, .slice g.ro g.rs.length g.rc, .int .i64 o.fold, .bool o.early, .int .i64 o.slices, .pointer (some ⟨g.tb,0,none⟩),g.pv, .slice (some ⟨g.ob,0,none⟩) o.slices o.slices, .map (some g.mb)]
 ox:own g.xb= .one n
 ru:Oa (fun q=> own q= .Kq∧q < g.nb) w g.ro g.rs
 rv:g.rs.map Ao.v=o.rs
 nb:g.nb≤w.heap.size
structure JTk (w0 w:World) (own:Nat→Ez) (n:Nat) (g:Ec) (o:Ba):Prop where
 rt:RT w w0.heap.size g.tb g.pb g.sb (o.parts.map J6) (o.Bw.map J6)
 ot:own g.tb= .Mc n∧own g.pb= .Mc n∧own g.sb= .Mc n
structure JPt (w0 w:World) (own:Nat→Ez) (n:Nat) (g:Ec) (o:Ba):Prop where
 po:Own 2 Ew 133 w w0.heap.size g.pv g.pl
 op:∀ q,g.pv.ownBlock=some q→own q= .parts n
 pn:g.pl.length=o.parts.length
 li:∀ (i:Nat) lv ov,g.pl[i]?=some (lv,ov)→∃ la lc,lv= .slice la (Aq o i).length lc∧Sl 1 Cm w la (Aq o i)∧(la=none→lc=0)∧∀ b off,la=some ⟨b,off,none⟩→own b= .Kq
 mp:∀ (i:Nat) p lv ov,o.parts[i]?=some p→g.pl[i]?=some (lv,ov)→p.st=2→∃ ob vs,ov= .slice (some ⟨ob,0,none⟩) o.slices o.slices∧Wh own w w0.heap.size ob vs (Ko o.fold o.early o.slices (Bf o.rs o.fold (Aq o i)))
structure JOs (w0 w:World) (own:Nat→Ez) (n:Nat) (g:Ec) (o:Ba):Prop where
 os:Own 1 Cm 9 w w0.heap.size (.slice (some ⟨g.ob,0,none⟩) o.slices o.slices) g.os
 oo:own g.ob= .outs n
 on_:g.os.length=o.slices
 od:∀ (i:Nat) p,o.Bw[i]?=some p→p.st=2→g.os[i]?=o.out[i]?
structure JSv (w:World) (own:Nat→Ez) (n:Nat) (g:Ec) (o:Ba):Prop where
 sv:Ds w Tryz.prog 33 g.mb g.sf
 om:own g.mb= .saved n
 ss:∀ fold (i:Nat) p,(Eb o fold)[i]?=some p→(p.saved < 0→g.sf (C9 (n,fold,i))=none)∧(0≤p.saved→∃ s,g.sf (C9 (n,fold,i))=some (.string s)∧Oc o fold i p.saved.toNat s)
 sd:∀ x,g.sf x≠none→∃ (fold:Bool) (i:Nat),i < 64∧x=C9 (n,fold,i)
structure Fh (w0 w:World) (own:Nat→Ez) (n:Nat) (g:Ec) (o:Ba):Prop where
 hd:JHd w own n g o
 tk:JTk w0 w own n g o
 pt:JPt w0 w own n g o
 os:JOs w0 w own n g o
 sv:JSv w own n g o
def Ed (o o':Ba):Prop:=o'.queue=o.queue∧o'.rs=o.rs∧o'.fold=o.fold∧o'.slices=o.slices∧o'.early=o.early∧o'.lines=o.lines∧o'.size=o.size∧o'.out=o.out
def Wi (g g':Ec):Prop:=g'.xb=g.xb∧g'.ro=g.ro∧g'.rc=g.rc∧g'.rs=g.rs∧g'.nb=g.nb
def Cf (w0 w:World) (own:Nat→Ez) (a b:Nat) (g:Ec) (o:Ba) (t:Ev) (c:Nat) (v:Value):Prop:=
 if t.2.1=true then ∃ B vf,v= .agg #[.pointer none,vf]∧(w0.heap.size≤B∧B≤w.heap.size)∧Gv w B o.fold (Cd o t.2.2) c (fun q=> own q= .run a b) (fun q=> own q= .run a b) vf
 else ∃ B vm,v= .agg #[vm, .pointer none]∧(g.nb≤B∧w0.heap.size≤B∧B≤w.heap.size)∧D8 w B g.ro g.rc g.rs o.fold o.slices o.early (Aq o t.2.2) c (fun q=> own q= .run a b) vm
theorem Cf.shape {w0 w:World} {own:Nat→Ez} {a b c:Nat} {g:Ec} {o:Ba} {t:Ev} {v:Value} (h:Cf w0 w own a b g o t c v):∃ r0 r1:Option Addr,v= .agg #[.pointer r0, .pointer r1]:=by
 unfold Cf at h
 split at h
 ·obtain⟨_,vf,rfl,_,h1⟩:=h
  obtain⟨gp,rfl⟩:=h1.ptr
  exact⟨_,_,rfl⟩
 ·obtain⟨_,vf,rfl,_,h1⟩:=h
  obtain⟨gp,rfl⟩:=h1.ptr
  exact⟨_,_,rfl⟩
structure B8 (w0 w:World) (own:Nat→Ez) (G:Bg) (F:Ad):Prop where
 gw:GW w0
 E5:Below w0.heap.size w0 w
 lo:∀ q,own q≠ .out→w0.heap.size≤q∧q < w.heap.size
 bk:Bk w G.fb [.slice G.qa F.Aj.length G.qc, .pointer (some ⟨G.bb,0,none⟩), .map (some G.mb),G.jv, .string (tx F.log)]
 oh:own G.fb= .hd
 qs:Sl 2 Bx w G.qa F.Aj
 oq:∀ b o,G.qa=some ⟨b,o,none⟩→own b= .Kq
 bt:BT w w0.heap.size G.bb G.lb G.cap G.n G.rs (F.Ag.map (·.map D9))
 ob:own G.bb= .Gp∧own G.lb= .Gp∧∀ r∈G.rs,own r= .Gp
 rn:Ds w Tryz.prog 60 G.mb G.rf
 P8:own G.mb= .runs
 rd:∀ x,G.rf x≠none→(∃ a b,a < 4∧b < 3∧x=B7 a b)∧∃ r0 r1:Option Addr,G.rf x=some (.agg #[.pointer r0, .pointer r1])
 rr:∀ a b t,An F a b=some t→t.on=true→∃ v g o,G.rf (B7 a b)=some v∧G.jg[t.t.1]?=some g∧F.Af[t.t.1]?=some o∧Cf w0 w own a b g o t.t t.at_ v
 jo:Own 1 Of 92 w w0.heap.size G.jv (G.jg.map Ec.xb)
 oj:∀ q,G.jv.ownBlock=some q→own q= .Af
 jn:G.jg.length=F.Af.length
 js:∀ (n:Nat) g o,G.jg[n]?=some g→F.Af[n]?=some o→Fh w0 w own n g o
section
variable {w0 w w':World} {own own':Nat→Ez} {G:Bg} {F:Ad} {T:Nat→Prop} {n:Nat} {g:Ec} {o:Ba}
theorem Wh.kept {B ob:Nat} {vs:List Value} {ls:List (List Pr)} (h:Wh own w B ob vs ls) (k:Ab T w w') (hT:∀ q,T q→own q≠ .Kq):Wh own w' B ob vs ls:=
 ⟨h.rws.Aa3 k (fun e=> hT _ e h.o1) fun v hv q hq e=> hT q e (h.o2 v hv q hq),h.o1,h.o2⟩
theorem JHd.kept (h:JHd w own n g o) (k:Ab T w w') (hT:∀ q,T q→own q≠ .Kq∧own q≠ .one n):JHd w' own n g o:=
 ⟨h.bk.kept k fun e=> (hT _ e).2 h.ox,h.ox,h.ru.kept k fun q hq e=> (hT q e).1 hq.1,h.rv,Nat.le_trans h.nb k.size⟩
theorem JTk.kept (h:JTk w0 w own n g o) (k:Ab T w w') (hT:∀ q,T q→own q≠ .Mc n):JTk w0 w' own n g o:=
 ⟨h.rt.kept k (fun e=> hT _ e h.ot.1) (fun e=> hT _ e h.ot.2.1) fun e=> hT _ e h.ot.2.2,h.ot⟩
theorem JPt.kept (h:JPt w0 w own n g o) (k:Ab T w w') (hT:∀ q,T q→own q≠ .Kq∧own q≠ .parts n):JPt w0 w' own n g o where
 po:=k.own h.po fun q hq e=> (hT q e).2 (h.op q hq)
 op:=h.op
 pn:=h.pn
 li:=fun i lv ov hi=> by
  obtain⟨la,lc,e,h1,h2,h3⟩:=h.li i lv ov hi
  exact⟨la,lc,e,h1.kept k fun b o e1 e2=> (hT b e2).1 (h3 b o e1),h2,h3⟩
 mp:=fun i p lv ov hp hi h2=> by
  obtain⟨ob,vs,e,h1⟩:=h.mp i p lv ov hp hi h2
  exact⟨ob,vs,e,h1.kept k fun q e=> (hT q e).1⟩
theorem JOs.kept (h:JOs w0 w own n g o) (k:Ab T w w') (hT:∀ q,T q→own q≠ .outs n):JOs w0 w' own n g o:=
 ⟨k.own h.os fun q hq e=> by cases hq;exact hT _ e h.oo,h.oo,h.on_,h.od⟩
theorem JSv.kept (h:JSv w own n g o) (k:Ab T w w') (hT:∀ q,T q→own q≠ .saved n):JSv w' own n g o:=
 ⟨h.sv.kept k fun e=> hT _ e h.om,h.om,h.ss,h.sd⟩
theorem Fh.kept (h:Fh w0 w own n g o) (k:Ab T w w') (hT:∀ q,T q→own q≠ .Kq∧own q≠ .one n∧own q≠ .Mc n∧own q≠ .parts n∧own q≠ .outs n∧own q≠ .saved n):Fh w0 w' own n g o:=
 ⟨h.hd.kept k fun q hq=> ⟨(hT q hq).1,(hT q hq).2.1⟩,h.tk.kept k fun q hq=> (hT q hq).2.2.1,h.pt.kept k fun q hq=> ⟨(hT q hq).1,(hT q hq).2.2.2.1⟩,h.os.kept k fun q hq=> (hT q hq).2.2.2.2.1,h.sv.kept k fun q hq=> (hT q hq).2.2.2.2.2⟩
theorem Fh.re (h:Fh w0 w own n g o) (ha:∀ q,own q≠ .out→own' q=own q):Fh w0 w own' n g o:=
 have e:∀ {q:Nat} {c:Ez},own q=c→c≠ .out→own' q=c:=fun {q c} hq hc=> (ha q (by rw [hq];exact hc)).trans hq
 ⟨⟨h.hd.bk,e h.hd.ox (by simp),h.hd.ru.mono fun q hq=> ⟨e hq.1 (by simp),hq.2⟩,h.hd.rv,h.hd.nb⟩,
   ⟨h.tk.rt,e h.tk.ot.1 (by simp),e h.tk.ot.2.1 (by simp),e h.tk.ot.2.2 (by simp)⟩,
   {po:=h.pt.po,op:=fun q hq=> e (h.pt.op q hq) (by simp),pn:=h.pt.pn
    li:=fun i lv ov hi=> by
     obtain⟨la,lc,e1,h1,h2,h3⟩:=h.pt.li i lv ov hi
     exact⟨la,lc,e1,h1,h2,fun b o e1=> e (h3 b o e1) (by simp)⟩
    mp:=fun i p lv ov hp hi h2=> by
     obtain⟨ob,vs,e1,h1⟩:=h.pt.mp i p lv ov hp hi h2
     exact⟨ob,vs,e1,h1.rws,e h1.o1 (by simp),fun v hv q hq=> e (h1.o2 v hv q hq) (by simp)⟩},
   ⟨h.os.os,e h.os.oo (by simp),h.os.on_,h.os.od⟩,⟨h.sv.sv,e h.sv.om (by simp),h.sv.ss,h.sv.sd⟩⟩
theorem Wi.refl (g:Ec):Wi g g:=⟨rfl,rfl,rfl,rfl,rfl⟩
theorem Ed.A5 (o:Ba) (fold:Bool) (i:Nat) (f:As→As):Ed o (A5 o fold i f):=My o fold i f
theorem Ed.lines {o o':Ba} (h:Ed o o') (i:Nat):Aq o' i=Aq o i:=by
 obtain⟨_,_,_,_,_,h1,h2,_⟩:=h
 unfold Aq;rw [h1,h2]
theorem Ed.Cd {o o':Ba} (h:Ed o o') (k:Nat):Cd o' k=Go.Proofs.YtbibeionenjmfaaGreatDoor.Cd o k:=by
 have hl:=fun i=> h.lines i
 obtain⟨_,h1,h2,h3,h4,h5,h6,_⟩:=h
 unfold Go.Proofs.YtbibeionenjmfaaGreatDoor.Cd chunks
 rw [h1,h2,h3,h4,h5,h6]
 have:Aq o'=Aq o:=funext hl
 rw [this]
theorem Ed.saved {o o':Ba} (h:Ed o o') {fold:Bool} {i n:Nat} {s:ByteArray} (hs:Oc o fold i n s):Oc o' fold i n s:=by
 unfold Oc at hs ⊢
 rw [h.Cd,h.lines,h.2.1,h.2.2.1]
 exact hs
theorem JHd.to {o':Ba} (h:JHd w own n g o) (hs:Ed o o'):JHd w own n g o':=by
 obtain⟨e1,e2,e3,e4,e5,_⟩:=hs
 exact⟨by rw [e1,e3,e4,e5];exact h.bk,h.ox,h.ru,by rw [e2];exact h.rv,h.nb⟩
theorem JPt.to {o':Ba} (h:JPt w0 w own n g o) (hs:Ed o o') (hl:o'.parts.length=o.parts.length) (h2:∀ (i:Nat) p',o'.parts[i]?=some p'→p'.st=2→∃ p,o.parts[i]?=some p∧p.st=2):JPt w0 w own n g o' where
 po:=h.po
 op:=h.op
 pn:=h.pn.trans hl.symm
 li:=fun i lv ov hi=> by rw [hs.lines];exact h.li i lv ov hi
 mp:=fun i p lv ov hp hi hst=> by
  obtain⟨p0,hp0,hst0⟩:=h2 i p hp hst
  rw [hs.lines,hs.2.1,hs.2.2.1,hs.2.2.2.1,hs.2.2.2.2.1]
  exact h.mp i p0 lv ov hp0 hi hst0
theorem JOs.to {o':Ba} (h:JOs w0 w own n g o) (hs:Ed o o') (h2:∀ (i:Nat) p',o'.Bw[i]?=some p'→p'.st=2→∃ p,o.Bw[i]?=some p∧p.st=2):JOs w0 w own n g o' where
 os:=by rw [hs.2.2.2.1];exact h.os
 oo:=h.oo
 on_:=by rw [hs.2.2.2.1];exact h.on_
 od:=fun i p hp hst=> by
  obtain⟨p0,hp0,hst0⟩:=h2 i p hp hst
  rw [hs.2.2.2.2.2.2.2]
  exact h.od i p0 hp0 hst0
theorem JSv.to {o':Ba} (h:JSv w own n g o) (hs:Ed o o') (h2:∀ fold (i:Nat) p',(Eb o' fold)[i]?=some p'→∃ p,(Eb o fold)[i]?=some p∧p'.saved=p.saved):JSv w own n g o' where
 sv:=h.sv
 om:=h.om
 ss:=fun fold i p hp=> by
  obtain⟨p0,hp0,e⟩:=h2 fold i p hp
  rw [e]
  refine⟨(h.ss fold i p0 hp0).1,fun h0=> ?_⟩
  obtain⟨s,h3,h4⟩:=(h.ss fold i p0 hp0).2 h0
  exact⟨s,h3,hs.saved h4⟩
 sd:=h.sd
theorem Cf.to {a b c:Nat} {t:Ev} {v:Value} {g':Ec} {o':Ba} (h:Cf w0 w own a b g o t c v) (hg:Wi g g') (hs:Ed o o'):Cf w0 w own a b g' o' t c v:=by
 obtain⟨_,g1,g2,g3,g4⟩:=hg
 unfold Cf at h ⊢
 rw [hs.lines,hs.Cd,hs.2.2.1,hs.2.2.2.1,hs.2.2.2.2.1,g1,g2,g3,g4]
 exact h
theorem Cf.kept {a b c:Nat} {t:Ev} {v:Value} (h:Cf w0 w own a b g o t c v) (k:Ab T w w') (hT:∀ q,T q→own q≠ .run a b):Cf w0 w' own a b g o t c v:=by
 unfold Cf at h ⊢
 split at h
 ·rename_i hf
  rw [if_pos hf]
  obtain⟨B,vf,e,⟨h1,h2⟩,h3⟩:=h
  exact⟨B,vf,e,⟨h1,Nat.le_trans h2 k.size⟩,h3.Aa3 k (fun q hq e=> hT q e hq) fun q hq e=> hT q e hq⟩
 ·rename_i hf
  rw [if_neg hf]
  obtain⟨B,vm,e,⟨h1,h2,h4⟩,h3⟩:=h
  exact⟨B,vm,e,⟨h1,h2,Nat.le_trans h4 k.size⟩,h3.kept k fun q hq e=> hT q e hq⟩
theorem Gv.more {B:Nat} {kind:Int} {L:List Pr} {c:Nat} {S LS S' LS':Nat→Prop} {v:Value} (h:Gv w B kind L c S LS v) (hs:∀ q,S q→S' q) (hl:∀ q,LS q→LS' q):Gv w B kind L c S' LS' v:=by
 obtain⟨g,n,la,lc,va,e,h1,h2,h3,h4,h5,h6,h7⟩:=h
 exact⟨g,n,la,lc,va,e,h1,h2,h3,hs g h4,fun q e=> hs q (h5 q e),fun b o e=> hl b (h6 b o e),h7⟩
theorem Cf.re {a b c:Nat} {t:Ev} {v:Value} (h:Cf w0 w own a b g o t c v) (ha:∀ q,own q≠ .out→own' q=own q):Cf w0 w own' a b g o t c v:=by
 have e:∀ {q:Nat},own q= .run a b→own' q= .run a b:=fun {q} hq=> (ha q (by rw [hq];simp)).trans hq
 unfold Cf at h ⊢
 split at h
 ·rename_i hf
  rw [if_pos hf]
  obtain⟨B,vf,e1,h1,h3⟩:=h
  exact⟨B,vf,e1,h1,h3.more (fun q hq=> e hq) fun q hq=> e hq⟩
 ·rename_i hf
  rw [if_neg hf]
  obtain⟨B,vm,e1,h1,h3⟩:=h
  exact⟨B,vm,e1,h1,h3.more fun q hq=> e hq⟩
theorem B8.Ahv (h:B8 w0 w own G F) (k:Ab T w w') (hT:∀ q,T q→own q= .out∧w0.heap.size≤q):B8 w0 w' own G F where
 gw:=h.gw
 E5:=h.E5.trans (k.below (fun q hq=> (hT q hq).2) h.E5.size)
 lo:=fun q hq=> ⟨(h.lo q hq).1,Nat.lt_of_lt_of_le (h.lo q hq).2 k.size⟩
 bk:=h.bk.kept k fun e=> by have:=(hT _ e).1;rw [h.oh] at this;cases this
 oh:=h.oh
 qs:=h.qs.kept k fun b o e1 e=> by have:=(hT _ e).1;rw [h.oq b o e1] at this;cases this
 oq:=h.oq
 bt:=h.bt.kept k (fun e=> by have:=(hT _ e).1;rw [h.ob.1] at this;cases this) (fun e=> by have:=(hT _ e).1;rw [h.ob.2.1] at this;cases this) fun i r hr e=> by have:=(hT _ e).1;rw [h.ob.2.2 r (List.mem_of_getElem? hr)] at this;cases this
 ob:=h.ob
 rn:=h.rn.kept k fun e=> by have:=(hT _ e).1;rw [h.P8] at this;cases this
 P8:=h.P8
 rd:=h.rd
 rr:=fun a b t h1 h2=> by
  obtain⟨v,g,o,e1,e2,e3,e4⟩:=h.rr a b t h1 h2
  exact⟨v,g,o,e1,e2,e3,e4.kept k fun q e=> by rw [(hT q e).1];simp⟩
 jo:=k.own h.jo fun q hq e=> by have:=(hT _ e).1;rw [h.oj q hq] at this;cases this
 oj:=h.oj
 jn:=h.jn
 js:=fun n g o h1 h2=> (h.js n g o h1 h2).kept k fun q e=> by rw [(hT q e).1];simp
theorem B8.re (h:B8 w0 w own G F) (ha:∀ q,own q≠ .out→own' q=own q) (hl:∀ q,own' q≠ .out→w0.heap.size≤q∧q < w.heap.size):B8 w0 w own' G F:=
 have e:∀ {q:Nat} {c:Ez},own q=c→c≠ .out→own' q=c:=fun {q c} hq hc=> (ha q (by rw [hq];exact hc)).trans hq
 {gw:=h.gw,E5:=h.E5,lo:=hl,bk:=h.bk,oh:=e h.oh (by simp),qs:=h.qs,oq:=fun b o e1=> e (h.oq b o e1) (by simp),bt:=h.bt
  ob:=⟨e h.ob.1 (by simp),e h.ob.2.1 (by simp),fun r hr=> e (h.ob.2.2 r hr) (by simp)⟩
  rn:=h.rn,P8:=e h.P8 (by simp),rd:=h.rd
  rr:=fun a b t h1 h2=> by
   obtain⟨v,g,o,e1,e2,e3,e4⟩:=h.rr a b t h1 h2
   exact⟨v,g,o,e1,e2,e3,e4.re ha⟩
  jo:=h.jo,oj:=fun q hq=> e (h.oj q hq) (by simp),jn:=h.jn,js:=fun n g o h1 h2=> (h.js n g o h1 h2).re ha}
end
end Go.Proofs.YtbibeionenjmfaaGreatDoor
namespace Go.Proofs.YtbibeionenjmfaaGreatDoor
open Go.RowKit
theorem M0 {α:Type} {l:List α} {i:Nat} {x:α} (h:l[i]?=some x):l.set i x=l:=by
 apply List.ext_getElem?
 intro j
 by_cases hj:i=j
 ·subst hj
  rw [List.getElem?_set_self (List.getElem?_eq_some_iff.1 h).1,h]
 ·rw [List.getElem?_set_ne hj]
def Dr (own:Nat→Ez) (lo hi:Nat) (c:Ez):Nat→Ez:=fun q=> if lo≤q∧q < hi then c else own q
theorem Gu {own:Nat→Ez} {lo hi q:Nat} {c:Ez} (h:lo≤q∧q < hi):Dr own lo hi c q=c:=if_pos h
theorem Ch {own:Nat→Ez} {lo hi q:Nat} {c:Ez} (h:¬ (lo≤q∧q < hi)):Dr own lo hi c q=own q:=if_neg h
section
variable {w0 w w':World} {own:Nat→Ez} {G:Bg} {F F':Ad} {T:Nat→Prop} {n:Nat} {g g':Ec} {o o':Ba}
theorem B8.Pp (h:B8 w0 w own G F) (hi:Nat) (c:Ez):∀ q,own q≠ .out→Dr own w.heap.size hi c q=own q:=fun q hq=>
 Ch fun e=> by have:=(h.lo q hq).2;omega
theorem B8.Ap6 (h:B8 w0 w own G F) (hb:Below w.heap.size w w') (c:Ez):B8 w0 w' (Dr own w.heap.size w'.heap.size c) G F:=by
 have k:=Ab.Ai (S:=fun _=> False) hb (Nat.le_refl _)
 refine(h.Ahv k fun q hq=> hq.elim).re (h.Pp _ c) fun q hq=> ?_
 by_cases hin:w.heap.size≤q∧q < w'.heap.size
 ·exact⟨Nat.le_trans h.E5.size hin.1,hin.2⟩
 ·rw [Ch hin] at hq
  exact⟨(h.lo q hq).1,Nat.lt_of_lt_of_le (h.lo q hq).2 k.size⟩
theorem B8.job (h:B8 w0 w own G F) (k:Ab T w w') (hT:∀ q,T q→own q= .Mc n∨own q= .parts n∨own q= .outs n∨own q= .saved n) (hg:G.jg[n]?=some g) (ho:F.Af[n]?=some o) (hc:Fh w0 w' own n g' o') (eg:Wi g g') (eo:Ed o o')
 (e1:F'.Aj=F.Aj) (e2:F'.Ag=F.Ag) (e3:F'.log=F.log) (e4:F'.Af=F.Af.set n o'):B8 w0 w' own {G with jg:=G.jg.set n g'} F':=by
 have hno:∀ {q:Nat} {c:Ez},own q=c→c≠ .Mc n→c≠ .parts n→c≠ .outs n→c≠ .saved n→¬ T q:=fun {q c} hq h1 h2 h3 h4 ht=> by
  rcases hT q ht with e | e | e | e <;> rw [e] at hq
  ·exact h1 hq.symm
  ·exact h2 hq.symm
  ·exact h3 hq.symm
  ·exact h4 hq.symm
 have hlo:∀ q,T q→w0.heap.size≤q:=fun q hq=> (h.lo q (by rcases hT q hq with e | e | e | e <;> rw [e] <;> simp)).1
 have hnl:n < G.jg.length:=(List.getElem?_eq_some_iff.1 hg).1
 have hol:n < F.Af.length:=(List.getElem?_eq_some_iff.1 ho).1
 exact {
  gw:=h.gw
  E5:=h.E5.trans (k.below hlo h.E5.size)
  lo:=fun q hq=> ⟨(h.lo q hq).1,Nat.lt_of_lt_of_le (h.lo q hq).2 k.size⟩
  bk:=by rw [e1,e3];exact h.bk.kept k (hno h.oh (by simp) (by simp) (by simp) (by simp))
  oh:=h.oh
  qs:=by rw [e1];exact h.qs.kept k fun b o e1=> hno (h.oq b o e1) (by simp) (by simp) (by simp) (by simp)
  oq:=h.oq
  bt:=by rw [e2];exact h.bt.kept k (hno h.ob.1 (by simp) (by simp) (by simp) (by simp)) (hno h.ob.2.1 (by simp) (by simp) (by simp) (by simp)) fun i r hr=> hno (h.ob.2.2 r (List.mem_of_getElem? hr)) (by simp) (by simp) (by simp) (by simp)
  ob:=h.ob
  rn:=h.rn.kept k (hno h.P8 (by simp) (by simp) (by simp) (by simp))
  P8:=h.P8
  rd:=h.rd
  rr:=fun a b t h1 h2=> by
   have h1':An F a b=some t:=by unfold An at h1 ⊢;rw [←e2];exact h1
   obtain⟨v,g0,o0,x1,x2,x3,x4⟩:=h.rr a b t h1' h2
   have x5:=x4.kept k fun q hq=> by rcases hT q hq with e | e | e | e <;> rw [e] <;> simp
   by_cases hn:t.t.1=n
   ·rw [hn] at x2 x3
    rw [hg] at x2;rw [ho] at x3
    cases x2;cases x3
    exact⟨v,g',o',x1,by rw [hn];exact List.getElem?_set_self hnl,by rw [hn,e4];exact List.getElem?_set_self hol,x5.to eg eo⟩
   ·exact⟨v,g0,o0,x1,by rw [List.getElem?_set_ne (fun e=> hn e.symm)];exact x2,by rw [e4,List.getElem?_set_ne (fun e=> hn e.symm)];exact x3,x5⟩
  jo:=by
   have:(G.jg.set n g').map Ec.xb=G.jg.map Ec.xb:=by
    rw [List.map_set,eg.1]
    exact M0 (by rw [List.getElem?_map,hg];rfl)
   rw [this]
   exact k.own h.jo fun q hq=> hno (h.oj q hq) (by simp) (by simp) (by simp) (by simp)
  oj:=h.oj
  jn:=by rw [e4,List.length_set,List.length_set];exact h.jn
  js:=fun m g1 o1 h1 h2=> by
   rw [e4] at h2
   by_cases hm:n=m
   ·subst hm
    rw [List.getElem?_set_self hnl] at h1
    rw [List.getElem?_set_self hol] at h2
    cases h1;cases h2
    exact hc
   ·rw [List.getElem?_set_ne hm] at h1 h2
    refine(h.js m g1 o1 h1 h2).kept k fun q hq=> ?_
    rcases hT q hq with e | e | e | e <;> rw [e] <;> refine⟨by simp,by simp,?_,?_,?_,?_⟩ <;> simp [hm]}
theorem Q7 {F:Ad} {a b:Nat} {row:List Gb} (x:Gb) (hr:F.Ag[a]?=some row):(Au F a b x).Ag.map (·.map D9)=(F.Ag.map (·.map D9)).set a ((row.map D9).set b (D9 x)):=by
 unfold Au
 apply List.ext_getElem?
 intro i
 have hal:=(List.getElem?_eq_some_iff.1 hr).1
 rw [List.getElem?_map,get_modify]
 by_cases hi:a=i
 ·subst hi
  rw [if_pos rfl,hr,List.getElem?_set_self (by rw [List.length_map];exact hal)]
  simp [List.map_set]
 ·rw [if_neg hi,List.getElem?_set_ne hi,List.getElem?_map]
theorem K5 {F:Ad} {a b:Nat} {t:Gb} (h:An F a b=some t):∃ row,F.Ag[a]?=some row∧row[b]?=some t:=by
 unfold An at h
 cases hr:F.Ag[a]? with
 | none=> rw [hr] at h;cases h
 | some row=> rw [hr] at h;exact⟨row,rfl,h⟩
theorem B8.Gp (h:B8 w0 w own G F) (k:Ab T w w') (hT:∀ q,T q→own q= .Gp) (e1:F'.Aj=F.Aj) (e2:F'.Af=F.Af) (e3:F'.log=F.log) (bt':BT w' w0.heap.size G.bb G.lb G.cap G.n G.rs (F'.Ag.map (·.map D9)))
 (hr:∀ a b t,An F' a b=some t→t.on=true→An F a b=some t∨∃ v g o,G.rf (B7 a b)=some v∧G.jg[t.t.1]?=some g∧F.Af[t.t.1]?=some o∧Cf w0 w own a b g o t.t t.at_ v):B8 w0 w' own G F':=by
 have hno:∀ {q:Nat} {c:Ez},own q=c→c≠ .Gp→¬ T q:=fun {q c} hq h1 ht=> h1 (hq ▸ hT q ht)
 have hlo:∀ q,T q→w0.heap.size≤q:=fun q hq=> (h.lo q (by rw [hT q hq];simp)).1
 exact {
  gw:=h.gw
  E5:=h.E5.trans (k.below hlo h.E5.size)
  lo:=fun q hq=> ⟨(h.lo q hq).1,Nat.lt_of_lt_of_le (h.lo q hq).2 k.size⟩
  bk:=by rw [e1,e3];exact h.bk.kept k (hno h.oh (by simp))
  oh:=h.oh
  qs:=by rw [e1];exact h.qs.kept k fun b o e1=> hno (h.oq b o e1) (by simp)
  oq:=h.oq
  bt:=bt'
  ob:=h.ob
  rn:=h.rn.kept k (hno h.P8 (by simp))
  P8:=h.P8
  rd:=h.rd
  rr:=fun a b t h1 h2=> by
   have:∃ v g o,G.rf (B7 a b)=some v∧G.jg[t.t.1]?=some g∧F.Af[t.t.1]?=some o∧Cf w0 w own a b g o t.t t.at_ v:=by
    rcases hr a b t h1 h2 with e | e
    ·exact h.rr a b t e h2
    ·exact e
   obtain⟨v,g0,o0,x1,x2,x3,x4⟩:=this
   exact⟨v,g0,o0,x1,x2,by rw [e2];exact x3,x4.kept k fun q hq=> by rw [hT q hq];simp⟩
  jo:=k.own h.jo fun q hq=> hno (h.oj q hq) (by simp)
  oj:=h.oj
  jn:=by rw [e2];exact h.jn
  js:=fun m g1 o1 h1 h2=> (h.js m g1 o1 h1 (by rw [←e2];exact h2)).kept k fun q hq=> by rw [hT q hq];simp}
theorem B8.runs {rf':Value→Option Value} (h:B8 w0 w own G F) (k:Ab T w w') (hT:∀ q,T q→own q= .runs) (rn':Ds w' Tryz.prog 60 G.mb rf') (rd':∀ x,rf' x≠none→(∃ a b,a < 4∧b < 3∧x=B7 a b)∧∃ r0 r1:Option Addr,rf' x=some (.agg #[.pointer r0, .pointer r1]))
 (hr:∀ a b t,An F a b=some t→t.on=true→rf' (B7 a b)=G.rf (B7 a b)):B8 w0 w' own {G with rf:=rf'} F:=by
 have hno:∀ {q:Nat} {c:Ez},own q=c→c≠ .runs→¬ T q:=fun {q c} hq h1 ht=> h1 (hq ▸ hT q ht)
 have hlo:∀ q,T q→w0.heap.size≤q:=fun q hq=> (h.lo q (by rw [hT q hq];simp)).1
 exact {
  gw:=h.gw
  E5:=h.E5.trans (k.below hlo h.E5.size)
  lo:=fun q hq=> ⟨(h.lo q hq).1,Nat.lt_of_lt_of_le (h.lo q hq).2 k.size⟩
  bk:=h.bk.kept k (hno h.oh (by simp))
  oh:=h.oh
  qs:=h.qs.kept k fun b o e1=> hno (h.oq b o e1) (by simp)
  oq:=h.oq
  bt:=h.bt.kept k (hno h.ob.1 (by simp)) (hno h.ob.2.1 (by simp)) fun i r hr=> hno (h.ob.2.2 r (List.mem_of_getElem? hr)) (by simp)
  ob:=h.ob
  rn:=rn'
  P8:=h.P8
  rd:=rd'
  rr:=fun a b t h1 h2=> by
   obtain⟨v,g0,o0,x1,x2,x3,x4⟩:=h.rr a b t h1 h2
   exact⟨v,g0,o0,(hr a b t h1 h2).trans x1,x2,x3,x4.kept k fun q hq=> by rw [hT q hq];simp⟩
  jo:=k.own h.jo fun q hq=> hno (h.oj q hq) (by simp)
  oj:=h.oj
  jn:=h.jn
  js:=fun m g1 o1 h1 h2=> (h.js m g1 o1 h1 h2).kept k fun q hq=> by rw [hT q hq];simp}
theorem B8.run {a b c:Nat} {t:Gb} {v:Value} (h:B8 w0 w own G F) (k:Ab (fun q=> own q= .run a b) w w') (ht:An F a b=some t) (hg:G.jg[t.t.1]?=some g) (ho:F.Af[t.t.1]?=some o) (hv:G.rf (B7 a b)=some v)
 (hr:Cf w0 w' (Dr own w.heap.size w'.heap.size (.run a b)) a b g o t.t c v):B8 w0 w' (Dr own w.heap.size w'.heap.size (.run a b)) G (Au F a b {t with at_:=c}):=by
 have hno:∀ {q:Nat} {d:Ez},own q=d→d≠ .run a b→¬ own q= .run a b:=fun {q d} hq h1 ht=> h1 (hq ▸ ht)
 have hlo:∀ q,own q= .run a b→w0.heap.size≤q:=fun q hq=> (h.lo q (by rw [hq];simp)).1
 have ha:=h.Pp w'.heap.size (.run a b)
 have e:∀ {q:Nat} {d:Ez},own q=d→d≠ .out→Dr own w.heap.size w'.heap.size (.run a b) q=d:=fun {q d} hq hc=> (ha q (by rw [hq];exact hc)).trans hq
 obtain⟨row,hrow,hb⟩:=K5 ht
 exact {
  gw:=h.gw
  E5:=h.E5.trans (k.below hlo h.E5.size)
  lo:=fun q hq=> by
   by_cases hin:w.heap.size≤q∧q < w'.heap.size
   ·exact⟨Nat.le_trans h.E5.size hin.1,hin.2⟩
   ·rw [Ch hin] at hq
    exact⟨(h.lo q hq).1,Nat.lt_of_lt_of_le (h.lo q hq).2 k.size⟩
  bk:=h.bk.kept k (hno h.oh (by simp))
  oh:=e h.oh (by simp)
  qs:=h.qs.kept k fun b o e1=> hno (h.oq b o e1) (by simp)
  oq:=fun b o e1=> e (h.oq b o e1) (by simp)
  bt:=by
   have:(Au F a b {t with at_:=c}).Ag.map (·.map D9)=F.Ag.map (·.map D9):=by
    rw [Q7 _ hrow]
    have h2:(row.map D9).set b (D9 {t with at_:=c})=row.map D9:=M0 (by rw [List.getElem?_map,hb];rfl)
    rw [h2]
    exact M0 (by rw [List.getElem?_map,hrow];rfl)
   rw [this]
   exact h.bt.kept k (hno h.ob.1 (by simp)) (hno h.ob.2.1 (by simp)) fun i r hr=> hno (h.ob.2.2 r (List.mem_of_getElem? hr)) (by simp)
  ob:=⟨e h.ob.1 (by simp),e h.ob.2.1 (by simp),fun r hr=> e (h.ob.2.2 r hr) (by simp)⟩
  rn:=h.rn.kept k (hno h.P8 (by simp))
  P8:=e h.P8 (by simp)
  rd:=h.rd
  rr:=fun a' b' t' h1 h2=> by
   rw [Ce] at h1
   split at h1
   ·rename_i hab
    obtain⟨rfl,rfl⟩:=hab
    rw [ht] at h1
    cases h1
    exact⟨v,g,o,hv,hg,ho,hr⟩
   ·rename_i hab
    obtain⟨v1,g1,o1,x1,x2,x3,x4⟩:=h.rr a' b' t' h1 h2
    refine⟨v1,g1,o1,x1,x2,x3,(x4.kept k fun q hq=> ?_).re ha⟩
    rw [hq]
    intro e3
    cases e3
    exact hab ⟨rfl,rfl⟩
  jo:=k.own h.jo fun q hq=> hno (h.oj q hq) (by simp)
  oj:=fun q hq=> e (h.oj q hq) (by simp)
  jn:=h.jn
  js:=fun m g1 o1 h1 h2=> ((h.js m g1 o1 h1 h2).kept k fun q hq=> by rw [hq];simp).re ha}
theorem B8.Ao5 (h:B8 w0 w own G F) (l:List UInt8):B8 w0 (w.setCell ⟨G.fb,4,none⟩ (.string (tx l))) own G {F with log:=l}:=by
 have k:Ab (fun q=> q=G.fb) w (w.setCell ⟨G.fb,4,none⟩ (.string (tx l))):=(Ab.refl (fun q=> q=G.fb) w).setCell (p:=⟨G.fb,4,none⟩) rfl _
 have hno:∀ {q:Nat} {c:Ez},own q=c→c≠ .hd→¬ q=G.fb:=fun {q c} hq h1 ht=> by rw [ht,h.oh] at hq;exact h1 hq.symm
 have hne:∀ q,q=G.fb→own q= .hd:=fun q e=> e ▸ h.oh
 exact {
  gw:=h.gw
  E5:=h.E5.trans (k.below (fun q hq=> by rw [hq];exact(h.lo _ (by rw [h.oh];simp)).1) h.E5.size)
  lo:=fun q hq=> ⟨(h.lo q hq).1,Nat.lt_of_lt_of_le (h.lo q hq).2 k.size⟩
  bk:=h.bk.set (k:=4) (u:= .string (tx F.log)) (.string (tx l)) rfl
  oh:=h.oh
  qs:=h.qs.kept k fun b o e1=> hno (h.oq b o e1) (by simp)
  oq:=h.oq
  bt:=h.bt.kept k (hno h.ob.1 (by simp)) (hno h.ob.2.1 (by simp)) fun i r hr=> hno (h.ob.2.2 r (List.mem_of_getElem? hr)) (by simp)
  ob:=h.ob
  rn:=h.rn.kept k (hno h.P8 (by simp))
  P8:=h.P8
  rd:=h.rd
  rr:=fun a b t h1 h2=> by
   obtain⟨v,g0,o0,x1,x2,x3,x4⟩:=h.rr a b t h1 h2
   exact⟨v,g0,o0,x1,x2,x3,x4.kept k fun q hq=> by rw [hne q hq];simp⟩
  jo:=k.own h.jo fun q hq=> hno (h.oj q hq) (by simp)
  oj:=h.oj
  jn:=h.jn
  js:=fun m g1 o1 h1 h2=> (h.js m g1 o1 h1 h2).kept k fun q hq=> by rw [hne q hq];simp}
end
end Go.Proofs.YtbibeionenjmfaaGreatDoor
namespace Go.Proofs.YtbibeionenjmfaaGreatDoor
open Go.RowKit
section
variable {w0 w w':World} {own:Nat→Ez} {G:Bg} {F F':Ad}
theorem B8.rows (h:B8 w0 w own G F):G.rs.length=F.Ag.length:=by have:=h.bt.lt;rw [List.length_map] at this;exact this.symm
theorem B8.Xt (h:B8 w0 w own G F) {a:Nat} {row:List Gb} (hr:F.Ag[a]?=some row):row.length=G.n:=by
 have hl:=(List.getElem?_eq_some_iff.1 hr).1
 obtain⟨r,row',_,h2,h3,_⟩:=h.bt.row (i:=a) (by rw [h.rows];exact hl)
 rw [List.getElem?_map,hr] at h2
 cases h2
 simpa using h3
theorem B8.slot (h:B8 w0 w own G F) {a b:Nat} (hl:a < G.rs.length) (hb:b < G.n):∃ r row t,G.rs[a]?=some r∧F.Ag[a]?=some row∧row[b]?=some t∧An F a b=some t∧(F.Ag.map (·.map D9))[a]?=some (row.map D9)∧(row.map D9)[b]?=some (D9 t)∧own r= .Gp:=by
 have hl2:a < F.Ag.length:=by rw [←h.rows];exact hl
 have hr:F.Ag[a]?=some F.Ag[a]:=List.getElem?_eq_getElem hl2
 have hn:=h.Xt hr
 have hb2:b < F.Ag[a].length:=by rw [hn];exact hb
 have ht:F.Ag[a][b]?=some F.Ag[a][b]:=List.getElem?_eq_getElem hb2
 have hg:G.rs[a]?=some G.rs[a]:=List.getElem?_eq_getElem hl
 exact⟨_,_,_,hg,hr,ht,by unfold An;rw [hr];exact ht,by rw [List.getElem?_map,hr];rfl,by rw [List.getElem?_map,ht];rfl,h.ob.2.2 _ (List.mem_of_getElem? hg)⟩
theorem B8.Am7 (h:B8 w0 w own G F) {a b:Int} (hn:¬ (0≤a∧a < G.rs.length∧0≤b∧b < G.n)):inM F a b=(Ha,5):=by
 unfold inM
 by_cases h0:a < 0∨b < 0
 ·rw [if_pos h0]
 ·rw [if_neg h0]
  cases hs:(F.Ag[a.toNat]?).bind (·[b.toNat]?) with
  | none=> rfl
  | some t=>
    exfalso
    obtain⟨row,h1,h2⟩:=K5 (F:=F) (a:=a.toNat) (b:=b.toNat) hs
    have h3:=(List.getElem?_eq_some_iff.1 h1).1
    have h4:=(List.getElem?_eq_some_iff.1 h2).1
    rw [h.Xt h1] at h4
    rw [←h.rows] at h3
    omega
theorem Aj6 {F:Ad} {a b:Nat} {t:Gb} (h:An F a b=some t):inM F a b=if t.on=true then(t.t,0) else(Ha,7):=by
 unfold inM
 rw [if_neg (by omega),Int.toNat_natCast,Int.toNat_natCast]
 unfold An at h
 rw [h]
theorem Alz (a b:Int) (h:B8 w0 w own G F):
 Calls Tryz.prog 46 #[.pointer (some ⟨G.bb,0,none⟩), .agg #[.int .i64 a, .int .i64 b]] w fun e w'=> e= .returned (.tuple #[C9 (inM F a b).1,Du (inM F a b).2])∧Below w.heap.size w w':=by
 by_cases hn:0≤a∧a < G.rs.length∧0≤b∧b < G.n
 ·obtain⟨i,rfl⟩:∃ i:Nat,a=i:=⟨a.toNat,by omega⟩
  obtain⟨j,rfl⟩:∃ j:Nat,b=j:=⟨b.toNat,by omega⟩
  obtain⟨r,row,t,h1,h2,h3,h4,h5,h6,_⟩:=h.slot (a:=i) (b:=j) (by omega) (by omega)
  refine(Ai4 h.bt h1 h5 h6).mono ?_
  rintro e w' ⟨rfl,hb⟩
  refine⟨?_,hb⟩
  rw [Aj6 h4]
  unfold inV D9 C9 Ha
  cases t.on
  ·rfl
  ·simp only [if_true];rw [A3]
 ·rw [h.Am7 hn]
  exact An3 a b h.bt hn
theorem Adh (row:List Gb):Mj (row.map D9)=match row.findIdx? (fun a=> !a.on) with | some k=> (k:Int) | none=> -1:=by
 unfold Mj Mi
 rw [List.findIdx?_map]
 have:((fun s:A0=> !s.1) ∘ D9)=fun a=> !a.on:=rfl
 rw [this]
 cases row.findIdx? (fun a=> !a.on) <;> rfl
def U6 (F:Ad) (wk:Int):Value:=if (Dy F wk).2=0 then .agg #[.int .i64 wk, .int .i64 (Dy F wk).1] else .agg #[.int .i64 0, .int .i64 0]
theorem Agh (wk:Int) (h:B8 w0 w own G F):
 Calls Tryz.prog 43 #[.pointer (some ⟨G.bb,0,none⟩), .int .i64 wk] w fun e w'=> e= .returned (.tuple #[U6 F wk,Du (Dy F wk).2])∧Below w.heap.size w w':=by
 by_cases hn:0≤wk∧wk < G.rs.length
 ·obtain⟨i,rfl⟩:∃ i:Nat,wk=i:=⟨wk.toNat,by omega⟩
  have hl2:i < F.Ag.length:=by have:=h.rows;omega
  have hr:F.Ag[i]?=some F.Ag[i]:=List.getElem?_eq_getElem hl2
  have h5:(F.Ag.map (·.map D9))[i]?=some (F.Ag[i].map D9):=by rw [List.getElem?_map,hr];rfl
  refine(Ajc h.bt h5).mono ?_
  rintro e w' ⟨rfl,hb⟩
  refine⟨?_,hb⟩
  have hrow:=Adh F.Ag[i]
  unfold Ak8 U6
  cases hf:F.Ag[i].findIdx? (fun a=> !a.on) with
  | none=>
    rw [hf] at hrow
    have e2:Dy F (i:Int)=(0,8):=by
     unfold Dy
     rw [if_neg (by omega),Int.toNat_natCast,hr]
     dsimp only
     rw [hf]
    rw [hrow,e2]
    rfl
  | some k=>
    rw [hf] at hrow
    have e2:Dy F (i:Int)=(k,0):=by
     unfold Dy
     rw [if_neg (by omega),Int.toNat_natCast,hr]
     dsimp only
     rw [hf]
    rw [hrow,e2]
    dsimp only
    rw [if_neg (Int.not_lt.2 (Int.natCast_nonneg k)),if_pos rfl,A3]
 ·have he:Dy F wk=(0,5):=by
   unfold Dy
   split
   ·rfl
   ·have:F.Ag[wk.toNat]?=none:=List.getElem?_eq_none (by have:=h.rows;omega)
    rw [this]
  unfold U6
  rw [he]
  exact Agu wk h.bt hn
theorem Wd (h:B8 w0 w own G F):
 Calls Tryz.prog 78 #[.pointer (some ⟨G.bb,0,none⟩)] w fun e w'=> e= .returned (.tuple #[.int .i64 F.Ag.length, .int .i64 G.n])∧Below w.heap.size w w':=by
 have:=Ajd h.bt
 rw [h.rows] at this
 exact this
theorem Ai1 {a b:Nat} {t:Gb} (h:B8 w0 w own G F) (ht:An F a b=some t) (hon:t.on=true):
 Calls Tryz.prog 82 #[.pointer (some ⟨G.bb,0,none⟩), .agg #[.int .i64 a, .int .i64 b]] w fun e w'=> e= .returned (.tuple #[C9 t.t, .nilIface])∧Ab (fun q=> own q= .Gp) w w'∧B8 w0 w' own G (Au F a b Em):=by
 obtain⟨row0,hr0,hb0⟩:=K5 ht
 have hl:=(List.getElem?_eq_some_iff.1 hr0).1
 have hbl:=(List.getElem?_eq_some_iff.1 hb0).1
 rw [h.Xt hr0] at hbl
 obtain⟨r,row,t',h1,h2,h3,h4,h5,h6,h7⟩:=h.slot (a:=a) (b:=b) (by rw [h.rows];exact hl) hbl
 rw [hr0] at h2;cases h2
 rw [hb0] at h3;cases h3
 have e6:D9 t=(true,(t.t.1:Int),t.t.2.1,(t.t.2.2:Int)):=by unfold D9;rw [hon]
 rw [e6] at h6
 refine(Al0 h.bt h1 h5 h6).mono ?_
 rintro e w' ⟨rfl,k,hbt⟩
 have k':=k.mono (T:=fun q=> own q= .Gp) fun q hq=> hq ▸ h7
 refine⟨rfl,k',h.Gp k' (fun q hq=> hq) rfl rfl rfl ?_ fun a' b' t' h1 h2=> ?_⟩
 ·rw [Q7 Em hr0];exact hbt
 ·rw [Ce] at h1
  split at h1
  ·rw [ht] at h1;cases h1;cases h2
  ·exact .inl h1
theorem Ai3 {a b c:Nat} {t:Gb} {t':Ev} (h:B8 w0 w own G F) (ht:An F a b=some t) (hoff:t.on=false) (hr:∃ v g o,G.rf (B7 a b)=some v∧G.jg[t'.1]?=some g∧F.Af[t'.1]?=some o∧Cf w0 w own a b g o t' c v):
 Calls Tryz.prog 77 #[.pointer (some ⟨G.bb,0,none⟩), .agg #[.int .i64 a, .int .i64 b],C9 t'] w fun e w'=> e= .returned .nilIface∧Ab (fun q=> own q= .Gp) w w'∧B8 w0 w' own G (Au F a b ⟨true,t',c⟩):=by
 obtain⟨row0,hr0,hb0⟩:=K5 ht
 have hl:=(List.getElem?_eq_some_iff.1 hr0).1
 have hbl:=(List.getElem?_eq_some_iff.1 hb0).1
 rw [h.Xt hr0] at hbl
 obtain⟨r,row,t1,h1,h2,h3,h4,h5,h6,h7⟩:=h.slot (a:=a) (b:=b) (by rw [h.rows];exact hl) hbl
 rw [hr0] at h2;cases h2
 rw [hb0] at h3;cases h3
 refine(Al7 h.bt h1 h5 h6 hoff).mono ?_
 rintro e w' ⟨rfl,k,hbt⟩
 have k':=k.mono (T:=fun q=> own q= .Gp) fun q hq=> hq ▸ h7
 refine⟨rfl,k',h.Gp k' (fun q hq=> hq) rfl rfl rfl ?_ fun a' b' x h1 h2=> ?_⟩
 ·rw [Q7 _ hr0];exact hbt
 ·rw [Ce] at h1
  split at h1
  ·rename_i hab
   obtain⟨rfl,rfl⟩:=hab
   rw [ht] at h1;cases h1
   exact .inr hr
  ·exact .inl h1
end
end Go.Proofs.YtbibeionenjmfaaGreatDoor
namespace Go.Proofs.YtbibeionenjmfaaGreatDoor
open Go.RowKit
theorem Rl (o:Ba):∀ k,((List.range k).map (Aq o)).flatten=o.lines.take (k * o.size)
 | 0=> by simp
 | k+1=> by
   rw [List.range_succ,List.map_append,List.flatten_append,Rl o k]
   simp only [List.map_cons,List.map_nil,List.flatten_cons,List.flatten_nil,List.append_nil]
   unfold Aq
   rw [Nat.succ_mul,List.take_add]
theorem Amf {n s:Nat} (hs:1≤s):n≤(n+s - 1) / s * s:=by
 have h1:=Nat.div_add_mod (n+s - 1) s
 have h2:=Nat.mod_lt (n+s - 1) (by omega:0 < s)
 rw [Nat.mul_comm] at h1
 omega
theorem Js {o:Ba} (hs:1≤o.size):(chunks o).flatten=o.lines:=by
 unfold chunks
 rw [Rl,List.take_of_length_le (Amf hs)]
theorem Cr (o:Ba) (i:Nat):(Aq o i).length=G8 o false i:=by
 unfold Aq G8;simp
theorem H7 {o:Ba} {i:Nat} {l:ByteArray} (h:l∈Aq o i):l∈o.lines:=List.mem_of_mem_drop (List.mem_of_mem_take h)
section
variable {nq:Nat} {o:Ba} (h:De nq o)
include h
theorem De.many:1≤o.rs.length∧o.rs.length≤4:=by
 have:=h.ok
 unfold Dv at this
 split at this
 ·cases this
 ·omega
theorem De.kind:Ek o.fold=0∧1≤o.fold∧o.fold≤4:=by
 have:=h.ok
 unfold Dv at this
 split at this
 ·cases this
 ·split at this
  ·cases this
  ·rename_i h2
   refine⟨?_,by omega⟩
   unfold Ek
   rw [if_neg h2]
theorem De.Afy:1≤o.slices∧o.slices≤4:=by
 have:=h.ok
 unfold Dv at this
 split at this
 ·cases this
 ·split at this
  ·cases this
  ·split at this
   ·cases this
   ·omega
theorem De.rules:∀ r∈o.rs,Gz r:=by
 have:=h.ok
 unfold Dv at this
 split at this
 ·cases this
 ·split at this
  ·cases this
  ·split at this
   ·cases this
   ·exact fun r hr=> Gz.of (Oq this r hr)
theorem De.Ao7:Nv (Bf o.rs o.fold o.lines):=Abm h.many.2 h.rules (by have:=h.lines;omega) (fun l hl=> by have:=h.short l hl;omega)
theorem De.Ao8 (i n:Nat):Nv (Bf o.rs o.fold ((Aq o i).take n)):=Abm h.many.2 h.rules (by rw [List.length_take,Cr];unfold G8;have:=h.lines;simp;omega) (fun l hl=> by have:=h.short l (H7 (List.mem_of_mem_take hl));omega)
theorem De.Ak4 (i n:Nat):(Ct (Bf o.rs o.fold ((Aq o i).take n))).length≤9000000:=by
 have h1:=M6 (Bf o.rs o.fold ((Aq o i).take n)) fun p hp=> by
  have:=Pg h.rules o.fold (lines:=(Aq o i).take n) (fun l hl=> by have:=h.short l (H7 (List.mem_of_mem_take hl));omega) p hp
  omega
 have h2:=Jb o.rs o.fold h.many.2 ((Aq o i).take n) (fun l hl=> by have:=h.short l (H7 (List.mem_of_mem_take hl));omega)
 rw [List.length_take,Cr] at h2
 unfold G8 at h2
 have:=h.lines
 simp at h2
 omega
theorem De.Ym (k:Nat):Nv (Cd o k):=by
 unfold Cd
 refine Y3 (Aj3 ?_)
 rw [Js h.size.1]
 exact h.Ao7
theorem De.Ll {k:Nat} (hk:k < o.slices):Ae o.fold (Cd o k)=V0 o.rs o.fold o.slices o.lines k:=by
 unfold Cd
 rw [Ahf hk,Js h.size.1]
theorem De.Aff (k:Nat):(given o.rs o.fold o.early o.slices (chunks o) k).flatten.length≤60800:=by
 unfold given
 have h1:=I9 (f:=fun c=> Nx o.fold o.early o.slices (Bf o.rs o.fold c) k) (g:=fun c=> Bf o.rs o.fold c) (fun c=> Wm _ _ _ _ _) (chunks o)
 rw [←Hw,Js h.size.1] at h1
 have h2:=Jb o.rs o.fold h.many.2 o.lines (fun l hl=> by have:=h.short l hl;omega)
 have:=h.lines
 omega
theorem De.Amk (k:Nat):∀ p∈Cd o k,p.1.size≤60∧ -9223372036854775808≤p.2∧p.2≤9223372036854775807:=by
 intro p hp
 unfold Cd at hp
 have hp:=Ph.1 hp
 obtain⟨l,hl,hpl⟩:=List.mem_flatten.1 hp
 unfold given at hl
 obtain⟨c,hc,rfl⟩:=List.mem_map.1 hl
 have hcl:∀ x∈c,x.size≤500:=fun x hx=> by
  have:x∈(chunks o).flatten:=List.mem_flatten.2 ⟨c,hc,hx⟩
  rw [Js h.size.1] at this
  have:=h.short x this
  omega
 have hm:=fun q (hq:q∈Bf o.rs o.fold c)=> Pg h.rules o.fold hcl q hq
 unfold Nx at hpl
 split at hpl
 ·have:=Oj o.fold (fun p=> p.1.size≤60∧ -9223372036854775808≤p.2∧p.2≤9223372036854775807) (fun q p hq hp _=> ⟨hq.1,Aey o.fold q.2 p.2 hq.2 hp.2⟩) (Dz ((Bf o.rs o.fold c).filter (Bh o.slices k))) (fun q hq=> by
   have:=hm q (List.mem_filter.1 (Ph.1 hq)).1
   exact⟨by omega,this.2⟩)
  exact this p hpl
 ·have:=hm p (List.mem_filter.1 (Ph.1 hpl)).1
  exact⟨by omega,this.2⟩
theorem De.T4 (k c:Nat):(Ct ((Ae o.fold (Cd o k)).take c)).length≤9000000:=
 Aas o.fold (by unfold Cd;rw [Fg];exact h.Aff k) (h.Amk k) c
theorem De.Abs:o.parts.length=(o.lines.length+o.size - 1) / o.size:=h.len false
theorem De.Nl:o.parts.length≤60:=by
 rw [h.Abs]
 have h1:=h.lines
 have h2:=h.size.1
 have:(o.lines.length+o.size - 1) / o.size≤o.lines.length:=by
  rcases Nat.eq_zero_or_pos o.lines.length with h0 | h0
  ·rw [h0,Nat.zero_add]
   rw [Nat.div_eq_of_lt (by omega)]
   exact Nat.le_refl _
  ·refine Nat.div_le_of_le_mul ?_
   have:o.size * o.lines.length ≥ o.size+o.lines.length - 1:=by
    obtain⟨a,ha⟩:∃ a,o.size=a+1:=⟨o.size - 1,by omega⟩
    obtain⟨b,hb⟩:∃ b,o.lines.length=b+1:=⟨o.lines.length - 1,by omega⟩
    rw [ha,hb,Nat.mul_add,Nat.add_mul]
    have:=Nat.zero_le (a * b)
    omega
   omega
 omega
theorem De.Nq:o.Bw.length=o.slices:=h.len true
end
end Go.Proofs.YtbibeionenjmfaaGreatDoor
namespace Go.Proofs.YtbibeionenjmfaaGreatDoor
open Go.RowKit
theorem Bk.s3 {w:World} {b:Nat} {a0 a1 a2:Value} (v0 v1 v2:Value) (h:Bk w b [a0,a1,a2]):Bk (((w.setCell ⟨b,0,none⟩ v0).setCell ⟨b,1,none⟩ v1).setCell ⟨b,2,none⟩ v2) b [v0,v1,v2]:=
 ((h.set (k:=0) (u:=a0) v0 rfl).set (k:=1) (u:=a1) v1 rfl).set (k:=2) (u:=a2) v2 rfl
theorem Hy {w W:World} {b B:Nat} (v0 v1 v2:Value) (h:Below B w W) (hB:B≤b):Below B w (((W.setCell ⟨b,0,none⟩ v0).setCell ⟨b,1,none⟩ v1).setCell ⟨b,2,none⟩ v2):=
 ((h.setCell (p:=⟨b,0,none⟩) hB _).setCell (p:=⟨b,1,none⟩) hB _).setCell (p:=⟨b,2,none⟩) hB _
theorem Bk.s6 {w:World} {b:Nat} {a0 a1 a2 a3 a4 a5:Value} (v0 v1 v2 v3 v4 v5:Value) (h:Bk w b [a0,a1,a2,a3,a4,a5]):Bk ((((((w.setCell ⟨b,0,none⟩ v0).setCell ⟨b,1,none⟩ v1).setCell ⟨b,2,none⟩ v2).setCell ⟨b,3,none⟩ v3).setCell ⟨b,4,none⟩ v4).setCell ⟨b,5,none⟩ v5) b [v0,v1,v2,v3,v4,v5]:=
 (((((h.set (k:=0) (u:=a0) v0 rfl).set (k:=1) (u:=a1) v1 rfl).set (k:=2) (u:=a2) v2 rfl).set (k:=3) (u:=a3) v3 rfl).set (k:=4) (u:=a4) v4 rfl).set (k:=5) (u:=a5) v5 rfl
theorem Tm {w W:World} {b B:Nat} (v0 v1 v2 v3 v4 v5:Value) (h:Below B w W) (hB:B≤b):Below B w ((((((W.setCell ⟨b,0,none⟩ v0).setCell ⟨b,1,none⟩ v1).setCell ⟨b,2,none⟩ v2).setCell ⟨b,3,none⟩ v3).setCell ⟨b,4,none⟩ v4).setCell ⟨b,5,none⟩ v5):=
 (((((h.setCell (p:=⟨b,0,none⟩) hB _).setCell (p:=⟨b,1,none⟩) hB _).setCell (p:=⟨b,2,none⟩) hB _).setCell (p:=⟨b,3,none⟩) hB _).setCell (p:=⟨b,4,none⟩) hB _).setCell (p:=⟨b,5,none⟩) hB _
section
variable {w0 w w':World} {own:Nat→Ez} {G:Bg} {F F':Ad}
theorem B8.Xd (h:B8 w0 w own G F):∃ ao cap,G.jv= .slice ao F.Af.length cap∧Sl 1 Of w ao (G.jg.map Ec.xb)∧(ao=none→cap=0):=by
 obtain⟨ao,cap,e⟩:=h.jo.1
 rw [List.length_map,h.jn] at e
 have ho:=h.jo
 rw [e] at ho
 have hl:(G.jg.map Ec.xb).length=F.Af.length:=by rw [List.length_map];exact h.jn
 rw [←hl] at ho
 exact⟨ao,cap,e,ho.sl Og,ho.Ts⟩
theorem B8.Rt (h:B8 w0 w own G F) {n:Nat} {o:Ba} (ho:F.Af[n]?=some o):∃ g gb cap,G.jg[n]?=some g∧G.jv= .slice (some ⟨gb,0,none⟩) F.Af.length cap∧w.cell? ⟨gb,n,none⟩=some (.pointer (some ⟨g.xb,0,none⟩))∧Fh w0 w own n g o∧own gb= .Af:=by
 have hl:=(List.getElem?_eq_some_iff.1 ho).1
 have hlg:n < G.jg.length:=by rw [h.jn];exact hl
 have hg:G.jg[n]?=some G.jg[n]:=List.getElem?_eq_getElem hlg
 obtain⟨ao,cap,e,hs,_⟩:=h.Xd
 have h0:0 < (G.jg.map Ec.xb).length:=by rw [List.length_map];omega
 obtain⟨gb,cap',e2,_,_,hc,_⟩:=h.jo.addr h0
 rw [e] at e2
 injection e2 with a1 a2 a3
 subst a1
 have hcell:w.cell? ⟨gb,n,none⟩=some (.pointer (some ⟨(G.jg[n]).xb,0,none⟩)):=by
  have hx:(G.jg.map Ec.xb)[n]?=some (G.jg[n]).xb:=by rw [List.getElem?_map,hg];rfl
  have h1:=H4 Og hx (j:=0) rfl
  rcases hc n with h2 | h2
  ·rw [h2];simpa using h1
  ·rw [List.length_map] at h2;omega
 exact⟨_,gb,cap,hg,e,hcell,h.js n _ o hg ho,h.oj gb (by rw [e];rfl)⟩
theorem B8.lt (h:B8 w0 w own G F) {q:Nat} (hq:own q≠ .out):q < w.heap.size:=(h.lo q hq).2
theorem B8.later (h:B8 w0 w own G F) (hb:Below w.heap.size w w'):B8 w0 w' own G F:=h.Ahv (Ab.Ai (S:=fun _=> False) hb (Nat.le_refl _)) fun q hq=> hq.elim
theorem Age (h:B8 w0 w own G F):Calls Tryz.prog 39 #[.pointer (some ⟨G.fb,0,none⟩)] w fun e w'=> e= .returned (.int .i64 F.Af.length)∧Below w.heap.size w w':=by
 obtain⟨ao,cap,e,_⟩:=h.Xd
 have c3:=h.bk.get (j:=3) rfl
 rw [e] at c3
 clear h e
 go_enter Tryz.func39,Tryz.ntmps39
 go_wp2
 go_ret
 exact⟨rfl,Below.refl _ _⟩
theorem Ae9 (l:List As):Vu (l.map J6)=Hj l:=by
 unfold Vu Hj
 rw [List.filter_map,List.length_map]
 rfl
theorem Jq (l:List As):Fy (l.map J6)=decide (Hj l=l.length):=by
 unfold Fy
 rw [Ae9,List.length_map]
def Zd (o:Ba):Value:= .agg #[.int .i64 o.queue, .int .i64 o.parts.length, .int .i64 (Hj o.parts:Nat), .int .i64 o.slices, .int .i64 (Hj o.Bw:Nat), .bool (decide (Hj o.Bw=o.Bw.length))]
def Up:Value:= .agg #[.int .i64 0, .int .i64 0, .int .i64 0, .int .i64 0, .int .i64 0, .bool false]
theorem Fh.Y5 {n:Nat} {g:Ec} {o:Ba} (h:Fh w0 w own n g o):∃ ao cap,g.pv= .slice ao o.parts.length cap∧Sl 2 Ew w ao g.pl∧(ao=none→cap=0):=by
 obtain⟨ao,cap,e⟩:=h.pt.po.1
 have ho:=h.pt.po
 rw [e] at ho
 exact⟨ao,cap,by rw [e,h.pt.pn],ho.sl Jt,ho.Ts⟩
end
end Go.Proofs.YtbibeionenjmfaaGreatDoor
namespace Go.Proofs.YtbibeionenjmfaaGreatDoor
open Go.RowKit
theorem Amd (l:List Int) (k:Nat):bump l (k:Int)=Ajp l k:=by
 unfold bump Ajp
 by_cases h:k < l.length
 ·rw [if_pos ⟨by omega,by omega⟩,Int.toNat_natCast]
 ·rw [if_neg (by omega),List.set_eq_of_length_le (by omega)]
theorem count_eq (F:Ad):Oe (fun j=> (Lu F j.toNat:Int)) F.Aj.length (F.Ag.map (·.map D9))=Iq F:=by
 unfold Oe Iq
 have:(F.Ag.map (·.map D9)).flatten=F.Ag.flatten.map D9:=(List.map_flatten ..).symm
 rw [this,List.foldl_map]
 congr 1
 funext l a
 unfold Fb D9
 dsimp only
 rw [Int.toNat_natCast,Amd]
theorem Yh (l:List As):Ig l=decide (Hj l=l.length):=by
 unfold Ig Hj
 rw [Bool.eq_iff_iff,decide_eq_true_eq,List.all_eq_true,List.length_filter_eq_length_iff]
def Abj (r:Option (Bool×Nat)):Bool×Int×Bool:=match r with
 | some (f,i)=> (f,(i:Int),true)
 | none=> (false,0,false)
theorem Ws (l:List As):Eh (l.map J6)=match l.findIdx? (fun p=> p.st ==0) with
 | some i=> (i:Int)
 | none=> -1:=by
 unfold Eh
 rw [List.findIdx?_map]
 have:((fun x:Int×Int=> x.1 ==0) ∘ J6)=fun p=> p.st ==0:=rfl
 rw [this]
 cases l.findIdx? (fun p=> p.st ==0) <;> rfl
theorem Akz (o:Ba):Pk (o.parts.map J6) (o.Bw.map J6)=Abj (Jy o):=by
 unfold Pk Jy
 rw [Jq,Jq,←Yh,←Yh,Ws,Ws]
 cases h1:Ig o.Bw <;> cases h2:o.parts.findIdx? (fun p=> p.st ==0) <;> cases h3:Ig o.parts <;> cases h4:o.Bw.findIdx? (fun p=> p.st ==0) <;> simp [Abj]
 all_goals (intro hh;omega)
section
variable {w0 w w':World} {own:Nat→Ez} {G:Bg} {F F':Ad}
theorem Agd {n pb:Nat} {o:Ba} (h:B8 w0 w own G F) (hp:w.cell? ⟨pb,0,none⟩=some (.pointer (some ⟨G.fb,0,none⟩))) (ho:F.Af[n]?=some o):
 Calls Tryz.prog 56 #[.int .i64 n, .pointer (some ⟨pb,0,none⟩)] w fun e w'=> e= .returned (.int .i64 o.queue)∧Below w.heap.size w w':=by
 obtain⟨g,gb,cap,hg,ej,cjn,hjc,_⟩:=h.Rt ho
 have hnl:=(List.getElem?_eq_some_iff.1 ho).1
 have cj:=h.bk.get (j:=3) rfl
 rw [ej] at cj
 have x0:=hjc.hd.bk.get (j:=0) rfl
 have f1:(n:Int) < (F.Af.length:Int):=by omega
 generalize F.Af.length=m at *
 clear h hjc ej ho hg
 go_enter Tryz.func56,Tryz.ntmps56
 go_wp2
 go_ret
 exact⟨rfl,Below.refl _ _⟩
set_option maxRecDepth 100000 in
theorem Ai2 (h:B8 w0 w own G F) (hq:F.Aj.length≤1000):Calls Tryz.prog 27 #[.pointer (some ⟨G.fb,0,none⟩)] w fun e w'=> ∃ ob,e= .returned (.slice (some ⟨ob,0,none⟩) F.Aj.length F.Aj.length)∧Below w.heap.size w w'∧Own 1 Fj 3 w' w.heap.size (.slice (some ⟨ob,0,none⟩) F.Aj.length F.Aj.length) (Iq F):=by
 obtain⟨W,hW⟩:∃ W,W=w.alloc (.cells #[.pointer (some ⟨G.fb,0,none⟩)] 23):=⟨_,rfl⟩
 have hb:Below w.heap.size w W:=by rw [hW];exact ba w _
 have hp:Bk W w.heap.size [.pointer (some ⟨G.fb,0,none⟩)]:=by rw [hW];exact Bk.new rfl
 have hW1:=h.later hb
 have HC:=Aa (fun nq=> Ack F.Aj.length hq (fun j=> (Lu F j.toNat:Int)) w.heap.size (w:=W.drewN nq) (hW1.later (below_drewN (Below.refl _ _) nq)).bt (fun i j row s hr hs hon w' k=> by
  rw [List.getElem?_map] at hr
  obtain⟨row0,hr0,rfl⟩:=Option.map_eq_some_iff.1 hr
  rw [List.getElem?_map] at hs
  obtain⟨t,ht,rfl⟩:=Option.map_eq_some_iff.1 hs
  obtain⟨v,g,o,_,_,ho,_⟩:=h.rr i j t (by unfold An;rw [hr0];exact ht) hon
  have hk:Below W.heap.size W w':=(below_drewN (Below.refl _ _) nq).trans k
  have:=Agd (n:=t.t.1) (pb:=w.heap.size) (hW1.later hk) (cell_later hk (hp.get (j:=0) rfl)) ho
  have e:Lu F (t.t.1:Int).toNat=o.queue:=by rw [Int.toNat_natCast];unfold Lu;rw [ho];rfl
  show Calls _ _ #[.int .i64 (t.t.1:Int),_] _ fun e w''=> e= .returned (.int .i64 (Lu F (t.t.1:Int).toNat:Int))∧_
  rw [e]
  exact this))
 have c0:=hp.get (j:=0) rfl
 have c1:=cell_later hb (h.bk.get (j:=0) rfl)
 have c2:=cell_later hb (h.bk.get (j:=1) rfl)
 have HW:=Aa hW
 have HB:=Aa hb
 simp only [count_eq] at HC
 generalize Iq F=H at *
 clear h hW1 hp hb hW hq
 generalize F.Aj.length=m at *
 go_enter Tryz.func27,Tryz.ntmps27
 go_upto_region 1 with (fail)
 rw [←HW.out]
 clear HW
 refine Bm 10 (by kernel_rfl) (by kernel_rfl) ?_
 simp only [List.take_succ_cons,List.take_zero,List.drop_succ_cons,List.drop_zero]
 repeat still_step
 refine wpStill_nil ?_
 go_wp2_with fail
 refine(HC.out 1).mono ?_
 rintro e w1 ⟨ob,rfl,b1,o1⟩
 have HB1:=Aa (HB.out.trans ((below_drewN (Below.refl _ _) 1).trans b1 |>.mono HB.out.size))
 have HO:=Aa (o1.B6 (b:=w.heap.size) HB.out.size)
 clear b1 o1 HC HB
 go_wp2
 go_ret
 exact⟨_,rfl,HB1.out,HO.out⟩
end
end Go.Proofs.YtbibeionenjmfaaGreatDoor
namespace Go.Proofs.YtbibeionenjmfaaGreatDoor
open Go.RowKit
theorem Aky {J:List Ba} {q k:Nat} {o:Ba} (h:J[k]?=some o):C7 q k (J.drop k)=if o.queue=q then(match Jy o with
 | some (f,i)=> some (k,f,i)
 | none=> C7 q (k+1) (J.drop (k+1))) else C7 q (k+1) (J.drop (k+1)):=by
 rw [drop_cons h];rfl
def Sk (r:Option Ev):Value:=C9 (r.getD Ha)
section
variable {w0 w w':World} {own:Nat→Ez} {G:Bg} {F F':Ad}
set_option maxRecDepth 100000 in
set_option maxHeartbeats 1000000 in
theorem Acn (q:Nat) (h:B8 w0 w own G F) (hj6:F.Af.length≤6):Calls Tryz.prog 63 #[.pointer (some ⟨G.fb,0,none⟩), .int .i64 q] w fun e w'=> e= .returned (.tuple #[Sk (C7 q 0 F.Af), .bool (C7 q 0 F.Af).isSome])∧Below w.heap.size w w':=by
 obtain⟨W,hW⟩:∃ W,W=w.alloc (.cells #[.int .i64 0, .bool false, .int .i64 0] 33):=⟨_,rfl⟩
 have hb:Below w.heap.size w W:=by rw [hW];exact ba w _
 have ht:Bk W w.heap.size [.int .i64 0, .bool false, .int .i64 0]:=by rw [hW];exact Bk.new rfl
 have hW1:=h.later hb
 obtain⟨ao,cap,ej,_⟩:=hW1.Xd
 have cj:=hW1.bk.get (j:=3) rfl
 rw [ej] at cj
 have HJA:=Aa fun w' (k:Below W.heap.size W w') (n:Nat) o (ho:F.Af[n]?=some o)=> (hW1.later k).Rt ho
 have HEJ:=Aa ej
 have HW:=Aa hW
 have HB0:=Aa hb
 have HT0:=Aa ht
 clear h hW hb ht hW1 ej
 go_enter Tryz.func63,Tryz.ntmps63
 go_upto_region 1 with (fail)
 rw [←HW.out]
 clear HW
 go_wp2
 go_loopw [16] (fun iv wr=> ∃ k:Nat,k≤F.Af.length∧iv= .int .i64 k∧Hid (C7 q 0 F.Af=C7 q k (F.Af.drop k))∧Hid (Below W.heap.size W wr)) (fun iv _=> F.Af.length - (intOf iv).toNat)
 case atStart=> exact⟨0,by omega,by go_num,(rfl:C7 q 0 F.Af=C7 q 0 (F.Af.drop 0)),Below.refl _ _⟩
 case round=>
  clear cj
  obtain⟨k,hk,rfl,HN,HBW⟩:=hrel
  have HB:=Aa (HB0.out.trans (HBW.out.mono HB0.out.size))
  have HT:=Aa (HT0.out.later HBW.out)
  by_cases hlt:k < F.Af.length
  ·obtain⟨o,ho⟩:∃ o,F.Af[k]?=some o:=⟨_,List.getElem?_eq_getElem hlt⟩
   obtain⟨g,gb,cap',hg,ej,cjn,hjc,_⟩:=HJA.out wr HBW.out k o ho
   rw [HEJ.out] at ej
   injection ej with a1 a2 a3
   subst a1
   have HNA:=Aa (Aky (q:=q) ho)
   have x0:=hjc.hd.bk.get (j:=0) rfl
   have x5:=hjc.hd.bk.get (j:=5) rfl
   have HNX:=Aa (Aja hjc.tk.rt)
   rw [Akz] at HNX
   have e1:decide (k < F.Af.length)=true:=by simpa using hlt
   have f1:(k:Int) < (F.Af.length:Int):=by omega
   clear hjc ho hg a2 a3
   generalize g.xb=xb at *
   generalize g.tb=tb at *
   obtain⟨qq,hqq⟩:∃ qq,qq=o.queue:=⟨_,rfl⟩
   rw [←hqq] at x0 HNA
   generalize Jy o=nj at *
   clear hqq
   by_cases hq:qq=q
   ·subst hq
    rw [if_pos rfl] at HNA
    cases nj with
    | some fi=>
      obtain⟨tf,ti⟩:=fi
      have HR:Hid (C7 qq 0 F.Af=some (k,tf,ti)):=HN.out.trans HNA.out
      unfold Abj triple at HNX
      dsimp only at HNX
      clear HN HNA HJA
      go_wp2_with fail
      refine HNX.out.mono ?_
      rintro e w2 ⟨rfl,b2⟩
      replace HB:=Aa (HB.out.trans (b2.mono HB.out.size))
      replace HT:=Aa (HT.out.later b2)
      replace x0:=cell_later b2 x0
      clear b2 HNX x5 cjn
      have e2:(qq ==qq)=true:=by simp
      have e3:((qq:Int) ==(qq:Int))=true:=by simp
      clear f1
      have hk9:=HT.out.s3 (.int .i64 k) (.bool tf) (.int .i64 ti)
      have c0:=HT.out.get (j:=0) rfl
      have c1:=HT.out.get (j:=1) rfl
      have c2:=HT.out.get (j:=2) rfl
      have z0:=HT.out.fz 0
      have z1:=HT.out.fz 1
      have z2:=HT.out.fz 2
      have f0:=hk9.get (j:=0) rfl
      have f1:=hk9.get (j:=1) rfl
      have f2:=hk9.get (j:=2) rfl
      have y0:=hk9.fz 0
      have y1:=hk9.fz 1
      have y2:=hk9.fz 2
      have HB9:=Aa (Hy (.int .i64 k) (.bool tf) (.int .i64 ti) HB.out (Nat.le_refl w.heap.size))
      clear hk9
      go_wp2
      exact bodyPost_ret (v:= .tuple #[.agg #[.int .i64 k, .bool tf, .int .i64 ti], .bool true]) (by simp [results,Tryz.results63,go_sem,f0,f1,f2,y0,y1,y2]) rfl ⟨by rw [HR.out];rfl,HB9.out⟩
    | none=>
      have HR:Hid (C7 qq 0 F.Af=C7 qq (k+1) (F.Af.drop (k+1))):=HN.out.trans HNA.out
      unfold Abj triple at HNX
      dsimp only at HNX
      clear HN HNA
      go_wp2_with fail
      refine HNX.out.mono ?_
      rintro e w2 ⟨rfl,b2⟩
      replace x0:=cell_later b2 x0
      have HBN:=Aa (HBW.out.trans (b2.mono HBW.out.size))
      clear b2 HNX x5 cjn HBW HB HT
      have e2:(qq ==qq)=true:=by simp
      have e3:((qq:Int) ==(qq:Int))=true:=by simp
      go_wp2
      go_roundw
      case rel=> exact⟨k+1,by omega,by go_num,HR,HBN⟩
      case measure=> (simp [intOf];try omega)
   ·rw [if_neg hq] at HNA
    have HR:Hid (C7 q 0 F.Af=C7 q (k+1) (F.Af.drop (k+1))):=HN.out.trans HNA.out
    generalize Abj nj=tr at *
    obtain⟨t1,t2,t3⟩:=tr
    unfold triple at HNX
    dsimp only at HNX
    clear HN HNA
    go_wp2_with fail
    refine HNX.out.mono ?_
    rintro e w2 ⟨rfl,b2⟩
    replace x0:=cell_later b2 x0
    have HBN:=Aa (HBW.out.trans (b2.mono HBW.out.size))
    clear b2 HNX x5 cjn HBW HB HT
    have e2:(qq ==q)=false:=by simpa using hq
    have e3:((qq:Int) ==(q:Int))=false:=by simp;omega
    clear hq
    go_wp2
    go_roundw
    case rel=> exact⟨k+1,by omega,by go_num,HR,HBN⟩
    case measure=> (simp [intOf];try omega)
  ·obtain rfl:k=F.Af.length:=by omega
   have HR:Hid (C7 q 0 F.Af=none):=by
    have:=HN.out
    rw [List.drop_length] at this
    exact this
   have e1:decide (F.Af.length < F.Af.length)=false:=by simp
   clear HN HJA
   have hk9:=HT.out.s3 (.int .i64 0) (.bool false) (.int .i64 0)
   have c0:=HT.out.get (j:=0) rfl
   have c1:=HT.out.get (j:=1) rfl
   have c2:=HT.out.get (j:=2) rfl
   have z0:=HT.out.fz 0
   have z1:=HT.out.fz 1
   have z2:=HT.out.fz 2
   have f0:=hk9.get (j:=0) rfl
   have f1:=hk9.get (j:=1) rfl
   have f2:=hk9.get (j:=2) rfl
   have y0:=hk9.fz 0
   have y1:=hk9.fz 1
   have y2:=hk9.fz 2
   have HB9:=Aa (Hy (.int .i64 0) (.bool false) (.int .i64 0) HB.out (Nat.le_refl w.heap.size))
   clear hk9
   go_wp2
   exact bodyPost_ret (v:= .tuple #[.agg #[.int .i64 0, .bool false, .int .i64 0], .bool false]) (by simp [results,Tryz.results63,go_sem,f0,f1,f2,y0,y1,y2]) rfl ⟨by rw [HR.out];rfl,HB9.out⟩
end
end Go.Proofs.YtbibeionenjmfaaGreatDoor
namespace Go.Proofs.YtbibeionenjmfaaGreatDoor
open Go.RowKit
theorem Own.setBool {e:TypeId} {w:World} {base g n cap k:Nat} {l:List Bool} (h:Own 1 Gk e w base (.slice (some ⟨g,0,none⟩) n cap) l) (hk:k < l.length) (v:Bool):Own 1 Gk e (w.setCell ⟨g,k,none⟩ (.bool v)) base (.slice (some ⟨g,0,none⟩) n cap) (l.set k v):=by
 obtain rfl:=h.len
 have:=Own.set (j:=0) (u:= .bool v) (y:=v) Dt h (List.getElem?_eq_getElem hk) (by omega) rfl
 simpa using this
theorem Own.Aoo {e:TypeId} {w:World} {base g n cap k:Nat} {l:List Bool} (h:Own 1 Gk e w base (.slice (some ⟨g,0,none⟩) n cap) l) (hk:k < l.length):w.cell? ⟨g,k,none⟩=some (.bool (l.getD k false)):=by
 have:=h.cellAt (i:=k) (j:=0) (x:=l[k]) Dt (List.getElem?_eq_getElem hk) rfl
 rw [List.getD_eq_getElem?_getD,List.getElem?_eq_getElem hk]
 simpa using this
theorem Qq (F:Ad):(Iq F).length=F.Aj.length:=by rw [←count_eq];unfold Oe;rw [Aao];simp
theorem Hv (F:Ad):(Cv F).length=F.Aj.length:=by unfold Cv;simp
theorem Ahk:(Tryz.prog.info? 4).map (fun i=> (i.zero,i.size,i.bytes))=some (some (.bool false),1,1):=by kernel_rfl
def Gm (F:Ad) (k:Nat):List Bool:=(Cv F).take k++List.replicate (F.Aj.length - k) false
theorem Acd (F:Ad) {k:Nat} (hk:k≤F.Aj.length):(Gm F k).length=F.Aj.length:=by
 unfold Gm;rw [List.length_append,List.length_take,Hv,List.length_replicate];omega
theorem Zk (F:Ad):Gm F 0=List.replicate F.Aj.length false:=by unfold Gm;simp
theorem Acb (F:Ad):Gm F F.Aj.length=Cv F:=by
 unfold Gm
 rw [Nat.sub_self,List.replicate_zero,List.append_nil,List.take_of_length_le (by rw [Hv];exact Nat.le_refl _)]
theorem Zj (F:Ad) {k:Nat} (hk:k < F.Aj.length):Gm F (k+1)=(Gm F k).set k (C7 k 0 F.Af).isSome:=by
 have hw:(Cv F)[k]?=some (C7 k 0 F.Af).isSome:=by unfold Cv;simp [hk]
 have hl:k < (Cv F).length:=by rw [Hv];exact hk
 unfold Gm
 have hx:(Cv F)[k]=(C7 k 0 F.Af).isSome:=by
  rw [List.getElem?_eq_getElem hl] at hw;exact Option.some.inj hw
 have e:F.Aj.length - k=(F.Aj.length - (k+1))+1:=by omega
 rw [List.take_succ_eq_append_getElem hl,hx,e,List.replicate_succ,List.set_append_right _ _ (by rw [List.length_take];omega),List.length_take,Nat.min_eq_left (by omega),Nat.sub_self,List.set_cons_zero,List.append_assoc]
 rfl
section
variable {w0 w w':World} {own:Nat→Ez} {G:Bg} {F F':Ad}
theorem Amm (h:B8 w0 w own G F):∀ n∈Iq F,0≤n∧n≤1000:=by
 intro n hn
 rw [←count_eq] at hn
 unfold Oe at hn
 have h1:=Afg (fun j=> (Lu F j.toNat:Int)) (F.Ag.map (·.map D9)).flatten (List.replicate F.Aj.length 0) 0 (fun x hx=> by rw [(List.mem_replicate.1 hx).2];omega) n hn
 have h2:=Afe h.bt.Ak9
 have h3:=h.bt.lt
 have h4:=h.bt.lr
 omega
theorem Afs {l:List (Int×Int)} (h:Er l=0):(1≤l.length∧l.length≤4)∧∀ q∈l,1≤q.1∧q.1≤9∧0≤q.2:=by
 unfold Er at h
 split at h
 ·cases h
 ·rename_i h1
  split at h
  ·cases h
  ·rename_i h2
   refine⟨by omega,fun q hq=> ?_⟩
   have h3:Sw q=false:=by
    cases hb:Sw q
    ·rfl
    ·exact absurd (List.any_eq_true.2 ⟨q,hq,hb⟩) h2
   unfold Sw at h3
   simp at h3
   omega
set_option maxRecDepth 100000 in
set_option maxHeartbeats 2000000 in
theorem Agg (h:B8 w0 w own G F) (hi:InvC F):Calls Tryz.prog 35 #[.pointer (some ⟨G.fb,0,none⟩)] w fun e w'=> e= .returned (.tuple #[Sk (H8 F), .bool (H8 F).isSome])∧Below w.heap.size w w':=by
 obtain⟨i0,hi0,hz0,hz1,hz2⟩:=info_parts Ahk
 obtain⟨hq1,hq2⟩:=Afs hi.qs
 have hj6:=hi.jl
 have hn4:F.Aj.length≤4:=hq1.2
 have HWN:=Aa (Hv F)
 have hmp:∀ w:World,(Instr.makeSlice 63 (.int .i64 F.Aj.length) (.int .i64 F.Aj.length)).run Tryz.prog w= .ok (.slice (some ⟨w.heap.size,0,none⟩) F.Aj.length F.Aj.length) (w.alloc (.cells (madeCells #[.bool false] F.Aj.length) 4)):=by
  intro w
  have:=run_makeSlice (P:=Tryz.prog) w 63 4 i0 (.bool false) Tryz.underlying63 hi0 hz0 .i64 .i64 F.Aj.length F.Aj.length (by omega) (by omega) (by rw [hz1];omega) (by rw [hz2];omega) (by omega)
  rw [hz1] at this;simpa [Value.cells] using this
 obtain⟨W,hW⟩:∃ W,W=w.alloc (.cells #[.int .i64 0, .bool false, .int .i64 0] 33):=⟨_,rfl⟩
 obtain⟨W1,hW1⟩:∃ W1,W1=W.alloc (.cells (madeCells #[.bool false] F.Aj.length) 4):=⟨_,rfl⟩
 have hb:Below w.heap.size w W:=by rw [hW];exact ba w _
 have hsz:W.heap.size=w.heap.size+1:=by rw [hW];simp
 have hb1:Below w.heap.size w W1:=by rw [hW1];exact hb.alloc hb.size _
 have ht:Bk W1 w.heap.size [.int .i64 0, .bool false, .int .i64 0]:=by rw [hW1,hW];exact(Bk.new rfl).alloc _
 have hown:Own 1 Gk 4 W1 (w.heap.size+1) (.slice (some ⟨W.heap.size,0,none⟩) F.Aj.length F.Aj.length) (Gm F 0):=by
  rw [Zk,hW1]
  have:=Own.lit (base:=w.heap.size+1) (l:=List.replicate F.Aj.length false) (enc:=Gk) (sz:=1) (e:=4) Dt (B3 W (.cells (madeCells #[.bool false] F.Aj.length) 4)) (by omega) (by have:=El Dt (.bool false) false rfl F.Aj.length rfl;simpa [Value.cells] using this) (by simp;unfold maxLen;omega)
  simpa using this
 have HFI:=Aa fun w' (k:Below w.heap.size w w') (q:Nat)=> Acn q (h.later k) hj6
 have HHA:=Aa fun w' (k:Below w.heap.size w w')=> Ai2 (h.later k) (by omega)
 have HPI:=Aa fun(w':World) (k:Below w.heap.size w w') (ob wb:Nat) (ho:Sl 1 Fj w' (some ⟨ob,0,none⟩) (Iq F)) (hw:Sl 1 Gk w' (some ⟨wb,0,none⟩) (Cv F))=> Ajb G.qa (some ⟨ob,0,none⟩) (some ⟨wb,0,none⟩) G.qc F.Aj.length F.Aj.length F.Aj (Iq F) (Cv F) w' (by omega) (by rw [Qq];omega) (by rw [Hv];omega) (h.later k).qs ho hw (fun q hq=> by have:=hq2 q hq;omega) (Amm h)
 simp only [Qq,Hv] at HPI
 have HK:=Aa fun w' (k:Below w.heap.size w w')=> cell_later k (h.bk.get (j:=0) rfl)
 have HHL:=Aa (Qq F)
 have HNM:Hid (H8 F=if Bv F.Aj (Iq F) (Cv F) F.Aj.length < 0 then none else C7 (Bv F.Aj (Iq F) (Cv F) F.Aj.length).toNat 0 F.Af):=rfl
 have HWL:=Aa fun(k:Nat) (hk:k≤F.Aj.length)=> Acd F hk
 have HWS:=Aa fun(k:Nat) (hk:k < F.Aj.length)=> Zj F hk
 have HWE:=Aa (Acb F)
 have c0:=cell_later hb (h.bk.get (j:=0) rfl)
 have c0':=cell_later hb1 (h.bk.get (j:=0) rfl)
 have HW:=Aa hW
 have HW1:=Aa hW1
 have HB0:=Aa hb1
 have HT0:=Aa ht
 have HO0:=Aa hown
 have HSZ:=Aa hsz
 clear h hi hq1 hq2 hi0 hz0 hz1 hz2 hW hW1 hb hb1 ht hown hsz hj6
 generalize Bv F.Aj (Iq F) (Cv F) F.Aj.length=pk at *
 generalize hnq:F.Aj.length=nq at *
 have HNQ:=Aa hnq
 clear hnq
 go_enter Tryz.func35,Tryz.ntmps35
 go_upto_region 1 with (fail)
 rw [←HW.out]
 clear c0'
 go_upto_region 2 with (fail)
 rw [←HW1.out]
 rw [HSZ.out] at HO0 ⊢
 have c0':=HK.out W1 HB0.out
 clear HW HW1 c0 hmp
 go_wp2
 go_loopw [18] (fun iv wr=> ∃ k:Nat,k≤nq∧iv= .int .i64 k∧Hid (Own 1 Gk 4 wr (w.heap.size+1) (.slice (some ⟨w.heap.size+1,0,none⟩) nq nq) (Gm F k))∧Hid (Below w.heap.size w wr)∧Hid (Bk wr w.heap.size [.int .i64 0, .bool false, .int .i64 0])) (fun iv _=> nq - (intOf iv).toNat)
 case atStart=> exact⟨0,by omega,by go_num,HO0,HB0,HT0⟩
 case round=>
  clear c0' HO0 HB0 HT0
  obtain⟨k,hk,rfl,HO,HB,HT⟩:=hrel
  by_cases hlt:k < nq
  ·have HF:=Aa (HFI.out wr HB.out k)
   have HS:=Aa (HWS.out k hlt)
   generalize C7 k 0 F.Af=nq1 at *
   generalize Sk nq1=tv at *
   generalize nq1.isSome=bv at *
   go_wp2_with fail
   refine HF.out.mono ?_
   rintro e w2 ⟨rfl,b2⟩
   have hlw:=HWL.out k (by omega)
   have how:=HO.out.later b2
   have hset:=how.setBool (k:=k) (by rw [hlw];exact hlt) bv
   rw [←HS.out] at hset
   have HSET:=Aa hset
   have q0:=how.Aoo (k:=k) (by rw [hlw];exact hlt)
   have z0:=how.frozenAt k
   have HBN:=Aa ((HB.out.trans (b2.mono HB.out.size)).setCell (p:=⟨w.heap.size+1,k,none⟩) (by show w.heap.size≤w.heap.size+1;omega) (.bool bv))
   have HTN:=Aa ((HT.out.later b2).Gx (p:=⟨w.heap.size+1,k,none⟩) (by show ¬ w.heap.size+1=w.heap.size;omega) (.bool bv))
   have e1:decide (k < nq)=true:=by simpa using hlt
   have f1:(k:Int) < (nq:Int):=by omega
   clear hset how hlw b2 HO HB HT HS HF
   generalize (Gm F k).getD k false=qv at *
   go_wp2
   go_roundw
   case rel=> exact⟨k+1,by omega,by go_num,HSET,HBN,HTN⟩
   case measure=> (simp [intOf];try omega)
  ·obtain rfl:k=nq:=by omega
   have c0:=HK.out wr HB.out
   have HO2:=HO.out
   rw [HWE.out] at HO2
   have HSW:Hid (Sl 1 Gk wr (some ⟨w.heap.size+1,0,none⟩) (Cv F)):=by
    rw [←HWN.out] at HO2
    exact HO2.sl Dt
   clear HO2 HO
   have e1:decide (k < k)=false:=by simp
   go_upto_region 7 with (fail)
   refine wp_region_noPanic ?_
   refine Al (S:=(fun w'=> Below wr.heap.size wr w')) (E:= [8]) (by kernel_rfl) ?_ (fun hHeld=> ?_)
   ·(first | exact(Below.refl _ _).drew | exact hHeld.trans (b2.mono hHeld.size) | exact hHeld.trans (b1.mono hHeld.size) | exact hHeld)
   try dsimp only [List.size_toArray,List.length_cons,List.length_nil,Nat.reduceAdd]
   refine hP 0 (v:=?_) rfl (by kernel_rfl) (by rfl) ?_ ?_
   rotate_left
   focus (intro w;go_simp;try with_reducible rfl)
   refine hP 4 (v:=?_) rfl (by kernel_rfl) (by rfl) ?_ ?_
   rotate_left
   focus (intro w;go_simp;try with_reducible rfl)
   refine hP 6 (v:=?_) rfl (by kernel_rfl) (by rfl) ?_ ?_
   rotate_left
   focus (intro w;go_simp;try with_reducible rfl)
   refine hP 1 (v:=?_) rfl (by kernel_rfl) (by rfl) ?_ ?_
   rotate_left
   focus (intro w;go_simp;try with_reducible rfl)
   refine hP 2 (v:=?_) rfl (by kernel_rfl) (by rfl) ?_ ?_
   rotate_left
   focus (intro w;go_simp;try with_reducible rfl)
   refine hT 3 [[3]] (v:=?_) rfl (by kernel_rfl) (by rfl) (by assumption) ?_ ?_
   rotate_left
   focus (intro w hSw;(try dsimp only at hSw);(have t0:=cell_later hSw c0);go_simp;try with_reducible rfl)
   try simp only [Act.put,List.setIfInBounds_toArray,List.set_cons_zero,List.set_cons_succ]
   refine hR [5] (by kernel_rfl) (by simp) (Ac.cons rfl (fun KH hKH=> ?_) .nil)
   go_simp
   (go_at_call 27;refine(HHA.out _ (HB.out.trans (hHeld.mono HB.out.size))).mono ?_;rintro e w1 ⟨ob,rfl,b1,o1⟩)
   try go_wp2_with fail
   have hSO:Sl 1 Fj w1 (some ⟨ob,0,none⟩) (Iq F):=by rw [←HHL.out] at o1;exact o1.sl D5
   clear o1
   refine hKH.out _ _ ?_ (fun hNew=> ?_)
   ·(first | exact(Below.refl _ _).drew | exact hHeld.trans (b2.mono hHeld.size) | exact hHeld.trans (b1.mono hHeld.size) | exact hHeld)
   clear hKH KH hHeld
   have hHeld:=hNew
   clear hNew
   try simp only [Act.put,List.setIfInBounds_toArray,List.set_cons_zero,List.set_cons_succ]
   refine hR [7] (by kernel_rfl) (by simp) (Ac.cons rfl (fun KH hKH=> ?_) .nil)
   go_simp
   (go_at_call 64;refine(HPI.out _ (HB.out.trans (hHeld.mono HB.out.size)) ob _ hSO (HSW.out.later hHeld (Nat.le_refl _))).mono ?_;rintro e w2 ⟨rfl,b2⟩)
   try go_wp2_with fail
   refine hKH.out _ _ ?_ (fun hNew=> ?_)
   ·(first | exact(Below.refl _ _).drew | exact hHeld.trans (b2.mono hHeld.size) | exact hHeld.trans (b1.mono hHeld.size) | exact hHeld)
   clear hKH KH hHeld
   have hHeld:=hNew
   clear hNew
   try simp only [Act.put,List.setIfInBounds_toArray,List.set_cons_zero,List.set_cons_succ]
   refine hR [8] (by kernel_rfl) (by simp) (Ac.Bb rfl (by kernel_rfl) (fun KH hKH=> ?_) .nil)
   have HBX:=Aa hHeld
   go_simp
   refine hKH.out _ _ ?_
   clear hKH KH
   try clear hHeld
   refine Ak (by kernel_rfl) ?_ _
   refine NoPanic.normal ?_
   replace HB:=Aa (HB.out.trans (HBX.out.mono HB.out.size))
   replace HT:=Aa (HT.out.later HBX.out)
   clear HBX c0 b1 b2 hSO HSW HPI HHA HK HWE HWN HHL e1
   by_cases hp:pk < 0
   ·have e1:decide (pk < 0)=true:=by simpa using hp
    rw [if_pos hp] at HNM
    have hk9:=HT.out.s3 (.int .i64 0) (.bool false) (.int .i64 0)
    have c0:=HT.out.get (j:=0) rfl
    have c1:=HT.out.get (j:=1) rfl
    have c2:=HT.out.get (j:=2) rfl
    have z0:=HT.out.fz 0
    have z1:=HT.out.fz 1
    have z2:=HT.out.fz 2
    have f0:=hk9.get (j:=0) rfl
    have f1:=hk9.get (j:=1) rfl
    have f2:=hk9.get (j:=2) rfl
    have y0:=hk9.fz 0
    have y1:=hk9.fz 1
    have y2:=hk9.fz 2
    have HB9:=Aa (Hy (.int .i64 0) (.bool false) (.int .i64 0) HB.out (Nat.le_refl w.heap.size))
    clear hk9
    go_wp2
    exact bodyPost_ret (v:= .tuple #[.agg #[.int .i64 0, .bool false, .int .i64 0], .bool false]) (by simp [results,Tryz.results35,go_sem,f0,f1,f2,y0,y1,y2]) rfl ⟨by rw [HNM.out];rfl,HB9.out⟩
   ·have e1:decide (pk < 0)=false:=by simpa using hp
    rw [if_neg hp] at HNM
    obtain⟨pn,rfl⟩:∃ pn:Nat,pk=pn:=⟨pk.toNat,by omega⟩
    rw [Int.toNat_natCast] at HNM
    go_wp2_with fail
    refine(HFI.out _ HB.out pn).mono ?_
    rintro e w3 ⟨rfl,b3⟩
    replace HB:=Aa (HB.out.trans (b3.mono HB.out.size))
    replace HT:=Aa (HT.out.later b3)
    clear b3 HFI
    have hr:=HNM.out
    clear HNM hp e1
    generalize C7 pn 0 F.Af=r at *
    obtain⟨t9,ht9⟩:∃ t9,t9=r.getD Ha:=⟨_,rfl⟩
    obtain⟨tn,tf,ti⟩:=t9
    have e9:Sk r= .agg #[.int .i64 tn, .bool tf, .int .i64 ti]:=by unfold Sk;rw [←ht9];rfl
    obtain⟨bs,hbs⟩:∃ bs,r.isSome=bs:=⟨_,rfl⟩
    have HR:Hid (Value.tuple #[Sk (H8 F), .bool (H8 F).isSome]= .tuple #[.agg #[.int .i64 tn, .bool tf, .int .i64 ti], .bool bs]):=by
     show _=_
     rw [hr,e9,hbs]
    rw [e9,hbs]
    clear hr e9 hbs ht9
    have hk9:=HT.out.s3 (.int .i64 tn) (.bool tf) (.int .i64 ti)
    have c0:=HT.out.get (j:=0) rfl
    have c1:=HT.out.get (j:=1) rfl
    have c2:=HT.out.get (j:=2) rfl
    have z0:=HT.out.fz 0
    have z1:=HT.out.fz 1
    have z2:=HT.out.fz 2
    have f0:=hk9.get (j:=0) rfl
    have f1:=hk9.get (j:=1) rfl
    have f2:=hk9.get (j:=2) rfl
    have y0:=hk9.fz 0
    have y1:=hk9.fz 1
    have y2:=hk9.fz 2
    have HB9:=Aa (Hy (.int .i64 tn) (.bool tf) (.int .i64 ti) HB.out (Nat.le_refl w.heap.size))
    clear hk9
    go_wp2
    exact bodyPost_ret (v:= .tuple #[.agg #[.int .i64 tn, .bool tf, .int .i64 ti], .bool bs]) (by simp [results,Tryz.results35,go_sem,f0,f1,f2,y0,y1,y2]) rfl ⟨by rw [HR.out],HB9.out⟩
end
end Go.Proofs.YtbibeionenjmfaaGreatDoor
namespace Go.Proofs.YtbibeionenjmfaaGreatDoor
open Go.RowKit
def uP (p:As):Nat:=if p.st=2 then 0 else 1
def uJ (o:Ba):Nat:=(o.parts.map uP).sum+(o.Bw.map uP).sum
def uF (l:List Ba):Nat:=(l.map uJ).sum
theorem L6 {α:Type} (g:α→Nat) (f:α→α):∀ (l:List α) (i:Nat) (x:α),l[i]?=some x→((l.modify i f).map g).sum+g x=(l.map g).sum+g (f x)
 | [],_,_,h=> by simp at h
 | y::l,0,x,h=> by
   rw [List.getElem?_cons_zero] at h
   cases h
   simp only [List.modify_zero_cons,List.map_cons,List.sum_cons]
   omega
 | y::l,i+1,x,h=> by
   rw [List.getElem?_cons_succ] at h
   have:=L6 g f l i x h
   simp only [List.modify_succ_cons,List.map_cons,List.sum_cons]
   omega
theorem Apf {o:Ba} {fo:Bool} {i:Nat} {p:As} (f:As→As) (h:(Eb o fo)[i]?=some p):uJ (A5 o fo i f)+uP p=uJ o+uP (f p):=by
 unfold A5 uJ
 unfold Eb at h
 cases fo with
 | true=>
   have:=L6 uP f o.Bw i p h
   simp only [if_true]
   omega
 | false=>
   have:=L6 uP f o.parts i p h
   simp only [Bool.false_eq_true,if_false]
   omega
theorem Alo {F:Ad} {t:Ev} {p:As} (f:As→As) (h:ofM F t=some p):uF (setOf F t f).Af+uP p=uF F.Af+uP (f p):=by
 obtain⟨o,ho,hp⟩:=Ia h
 have h1:=L6 uJ (fun o=> A5 o t.2.1 t.2.2 f) F.Af t.1 o ho
 have h2:=Apf f hp
 show uF (F.Af.modify t.1 fun o=> A5 o t.2.1 t.2.2 f)+_=_
 unfold uF
 omega
theorem Pn {F G:Ad} (h:F.Af=G.Af) (t:Ev):ofM F t=ofM G t:=by
 unfold ofM
 rw [h]
def I6 (w:Nat) (p:As):As:={p with st:=2,wh:=(w:Int),saved:= -1}
theorem J7 (F:Ad) (w k:Nat) (many:Int):(Br F w k many).Af=F.Af∨∃ t p,ofM F t=some p∧p.st≠2∧(Br F w k many).Af=(setOf F t (I6 w)).Af:=by
 unfold Br
 split
 ·exact .inl rfl
 ·next a _=>
  split
  ·exact .inl rfl
  ·split
   ·exact .inl rfl
   ·next p hp=>
    dsimp only
    generalize (if 0 < many then a.at_+min many.toNat (p.many - a.at_) else a.at_)=n
    split
    ·exact .inl rfl
    ·split
     ·exact .inl rfl
     ·next h2=>
      refine .inr ⟨a.t,p,hp,h2,?_⟩
      split <;> rfl
theorem Xe {F G:Ad} {w:Nat} (h:G.Af=F.Af∨∃ t p,ofM F t=some p∧p.st≠2∧G.Af=(setOf F t (I6 w)).Af):uF G.Af≤uF F.Af∧∀ t p,ofM F t=some p→∃ p',ofM G t=some p'∧p'.many=p.many∧(p.st=2→p'.st=2)∧(p.st≠2→p'.st=2→uF G.Af < uF F.Af):=by
 rcases h with h | ⟨t,p,hp,h2,h⟩
 ·rw [h]
  exact⟨Nat.le_refl _,fun t p hp=> ⟨p,by rw [Pn h];exact hp,rfl,fun e=> e,fun e e'=> absurd e' e⟩⟩
 ·have h3:=Alo (I6 w) hp
  have e1:uP p=1:=by unfold uP;rw [if_neg h2]
  have e2:uP (I6 w p)=0:=rfl
  rw [h]
  refine⟨by omega,fun u q hq=> ?_⟩
  rw [Pn h,Iz]
  by_cases hu:u=t
  ·rw [if_pos hu,hq]
   exact⟨I6 w q,rfl,rfl,fun _=> rfl,fun _ _=> by omega⟩
  ·rw [if_neg hu]
   exact⟨q,hq,rfl,fun e=> e,fun e e'=> absurd e' e⟩
theorem Nb (F:Ad) (w:Nat) (many:Int):∀ k,uF (A1 F w many k).Af≤uF F.Af∧∀ t p,ofM F t=some p→∃ p',ofM (A1 F w many k) t=some p'∧p'.many=p.many∧(p.st=2→p'.st=2)∧(p.st≠2→p'.st=2→uF (A1 F w many k).Af < uF F.Af)
 | 0=> ⟨Nat.le_refl _,fun t p hp=> ⟨p,hp,rfl,fun e=> e,fun e e'=> absurd e' e⟩⟩
 | k+1=> by
   obtain⟨h1,h2⟩:=Nb F w many k
   obtain⟨h3,h4⟩:=Xe (F:=A1 F w many k) (G:=Br (A1 F w many k) w k many) (J7 _ w k many)
   refine⟨Nat.le_trans h3 h1,fun t p hp=> ?_⟩
   obtain⟨p',hp',hm,h5,h6⟩:=h2 t p hp
   obtain⟨p'',hp'',hm',h7,h8⟩:=h4 t p' hp'
   refine⟨p'',hp'',hm'.trans hm,fun e=> h7 (h5 e),fun e e'=> ?_⟩
   by_cases hc:p'.st=2
   ·exact Nat.lt_of_le_of_lt h3 (h6 e hc)
   ·exact Nat.lt_of_lt_of_le (h8 hc e') h1
theorem Sn (F:Ad) (w k:Nat) (many:Int) {w' k':Nat} (h:¬ (w'=w∧k'=k)):An (Br F w k many) w' k'=An F w' k':=by
 have hset:∀ a,An (Au F w k a) w' k'=An F w' k':=fun a=> by rw [Ce,if_neg h]
 unfold Br
 split
 ·rfl
 ·next a _=>
  split
  ·rfl
  ·split
   ·rfl
   ·next p _=>
    dsimp only
    generalize (if 0 < many then a.at_+min many.toNat (p.many - a.at_) else a.at_)=n
    split
    ·exact hset _
    ·split
     ·exact hset _
     ·split <;> exact hset _
theorem Acf {F:Ad} (h:InvM F) {w k:Nat} {many:Int} {a:Gb} (ha:An F w k=some a) (hon:a.on=true) (hm:∀ p,ofM F a.t=some p→0 < many∧(p.many:Int)≤many):An (Br F w k many) w k=some Em∧∃ p',ofM (Br F w k many) a.t=some p'∧p'.st=2:=by
 obtain⟨p,hp,hat⟩:=h.att w k a ha hon
 obtain⟨hm0,hm1⟩:=hm p hp
 have ha':(F.Ag[w]?).bind (·[k]?)=some a:=ha
 have hn:¬ (a.at_+min many.toNat (p.many - a.at_) < p.many):=by omega
 have hsl:An (Au F w k Em) w k=some Em:=by rw [Ce,if_pos ⟨rfl,rfl⟩,ha];rfl
 unfold Br
 rw [ha']
 dsimp only
 rw [if_neg (by rw [hon];decide),hp]
 dsimp only
 rw [if_pos hm0,if_neg hn]
 by_cases h2:p.st=2
 ·rw [if_pos h2]
  exact⟨hsl,p,hp,h2⟩
 ·rw [if_neg h2]
  have hdo:ofM (setOf (Au F w k Em) a.t (I6 w)) a.t=some (I6 w p):=by
   rw [Iz,if_pos rfl,Rz,hp]
   rfl
  split
  ·exact⟨hsl,I6 w p,hdo,rfl⟩
  ·exact⟨hsl,I6 w p,hdo,rfl⟩
theorem J8 (F:Ad) (w:Nat) (many:Int) {w' k':Nat}:∀ k,(w'≠w∨k≤k')→An (A1 F w many k) w' k'=An F w' k'
 | 0,_=> rfl
 | k+1,h=> by
   show An (Br (A1 F w many k) w k many) w' k'=_
   rw [Sn _ _ _ _ (by omega)]
   exact J8 F w many k (by omega)
theorem So {F:Ad} (h:InvM F) {w:Nat} {many:Int} (h0:0 < many) (hm:∀ t p,ofM F t=some p→(p.many:Int)≤many):∀ k j a,j < k→An F w j=some a→An (A1 F w many k) w j=some Em∧(a.on=true→∃ p',ofM (A1 F w many k) a.t=some p'∧p'.st=2)
 | 0,_,_,hj,_=> by omega
 | k+1,j,a,hj,ha=> by
   have hI:InvM (A1 F w many k):=InvM.A1 h w many k
   obtain⟨_,h2⟩:=Nb F w many k
   obtain⟨_,h4⟩:=Xe (F:=A1 F w many k) (G:=Br (A1 F w many k) w k many) (J7 _ w k many)
   by_cases hjk:j=k
   ·subst hjk
    have hs:An (A1 F w many j) w j=some a:=by rw [J8 F w many j (.inr (Nat.le_refl _))];exact ha
    cases hon:a.on with
    | false=>
      have e:=h.off w j a ha hon
      refine⟨?_,fun hc=> by cases hc⟩
      show An (Br (A1 F w many j) w j many) w j=_
      have hs':((A1 F w many j).Ag[w]?).bind (·[j]?)=some a:=hs
      unfold Br
      rw [hs']
      dsimp only
      rw [if_pos hon,hs,e]
    | true=>
      have h5:=Acf hI (many:=many) hs hon (fun p hp=> ⟨h0,by
       obtain⟨q,hq,_⟩:=h.att w j a ha hon
       obtain⟨p',hp',hmm,_⟩:=h2 a.t q hq
       rw [hp] at hp'
       cases hp'
       rw [hmm]
       exact hm _ _ hq⟩)
      exact⟨h5.1,fun _=> h5.2⟩
   ·obtain⟨h5,h6⟩:=So h h0 hm k j a (by omega) ha
    refine⟨?_,fun hon=> ?_⟩
    ·show An (Br (A1 F w many k) w k many) w j=_
     rw [Sn _ _ _ _ (by omega)]
     exact h5
    ·obtain⟨p',hp',hst⟩:=h6 hon
     obtain⟨p'',hp'',_,h7,_⟩:=h4 a.t p' hp'
     exact⟨p'',hp'',h7 hst⟩
end Go.Proofs.YtbibeionenjmfaaGreatDoor
namespace Go.Proofs.YtbibeionenjmfaaGreatDoor
open Go.RowKit
theorem R8 {l:List (Int×Int)} {has:List Int} {wants:List Bool} (h0:∀ (i:Nat) (h:Int),has[i]?=some h→h=0) (hc:∀ q∈l,0 < q.2):∀ k,Bv l has wants k= -1→∀ i,i < k→i < has.length→i < l.length→wants[i]?≠some true
 | 0,_,_,hi,_,_=> by omega
 | k+1,h,i,hi,hh,hl=> by
   have hge:∀ b:Int,Ep l has wants b k= -1→b= -1∨b=(k:Int)∨Ep l has wants b k=b:=fun b hb=> by
    unfold Ep at hb ⊢
    split at hb
    ·split at hb
     ·exact .inl hb
     ·split at hb
      ·omega
      ·split at hb
       ·split at hb
        ·omega
        ·exact .inl hb
       ·exact .inl hb
    ·exact .inl hb
   have hb1:Bv l has wants k= -1:=by
    have h':Ep l has wants (Bv l has wants k) k= -1:=h
    rcases hge _ h' with e | e | e
    ·exact e
    ·rcases Nn l has wants k with e' | ⟨m,e',hm,_⟩
     ·exact e'
     ·omega
    ·rw [←e];exact h'
   by_cases hik:i < k
   ·exact R8 h0 hc k hb1 i hik hh hl
   ·have e:i=k:=by omega
    subst e
    intro hw
    have h':Ep l has wants (Bv l has wants i) i= -1:=h
    have h1:l[i]?=some (l[i].1,l[i].2):=List.getElem?_eq_getElem hl
    have h2:has[i]?=some has[i]:=List.getElem?_eq_getElem hh
    have h3:has[i]=0:=h0 i _ h2
    have h4:0 < l[i].2:=hc l[i] (List.getElem_mem hl)
    rw [R9 h2 h1 hw (by omega) (by omega)] at h'
    omega
theorem Wx {F:Ad} (h:∀ w k a,An F w k=some a→a.on=false):Iq F=List.replicate F.Aj.length 0:=by
 unfold Iq
 have hall:∀ a∈F.Ag.flatten,a.on=false:=fun a ha=> by
  obtain⟨w,k,hs⟩:=Akv.1 ha
  exact h w k a hs
 generalize F.Ag.flatten=l at *
 generalize List.replicate F.Aj.length (0:Int)=z
 induction l generalizing z with
 | nil=> rfl
 | cons a l ih=>
   rw [List.foldl_cons,if_neg (by rw [hall a (by simp)];decide)]
   exact ih (fun b hb=> hall b (by simp [hb])) z
theorem Aji {F:Ad} (h:InvM F) (hc:∀ q∈F.Aj,0 < q.2) (hoff:∀ w k a,An F w k=some a→a.on=false) (hn:H8 F=none):∀ o∈F.Af,Ig o.Bw=true:=by
 have hnext:∀ q,q < F.Aj.length→C7 q 0 F.Af=none:=fun q hq=> by
  unfold H8 at hn
  dsimp only at hn
  split at hn
  ·next hp=>
   have hp1:Bv F.Aj (Iq F) (Cv F) F.Aj.length= -1:=by
    rcases Nn F.Aj (Iq F) (Cv F) F.Aj.length with e | ⟨m,e,_⟩
    ·exact e
    ·omega
   have hz:=Wx hoff
   have hw:=R8 (l:=F.Aj) (has:=Iq F) (wants:=Cv F) (fun i x hx=> by
    rw [hz] at hx
    exact(List.mem_replicate.1 (List.mem_of_getElem? hx)).2) hc F.Aj.length hp1 q hq (by rw [hz,List.length_replicate];exact hq) hq
   have e1:(Cv F)[q]?=some (C7 q 0 F.Af).isSome:=by
    unfold Cv
    rw [List.getElem?_map,List.getElem?_range hq]
    rfl
   rw [e1] at hw
   cases hx:C7 q 0 F.Af with
   | none=> rfl
   | some t=> rw [hx] at hw;exact absurd rfl hw
  ·next hp=>
   exfalso
   rcases Nn F.Aj (Iq F) (Cv F) F.Aj.length with e | ⟨m,e,hm,_⟩
   ·omega
   ·have hz:=Wx hoff
    rw [e] at hn
    have key:∀ k,∀ m:Nat,Bv F.Aj (Iq F) (Cv F) k=(m:Int)→(Cv F)[m]?=some true:=fun k=> by
     induction k with
     | zero=> intro m hm;have:(-1:Int)=m:=hm;omega
     | succ k ih=>
       intro m hm
       have hm':Ep F.Aj (Iq F) (Cv F) (Bv F.Aj (Iq F) (Cv F) k) k=(m:Int):=hm
       generalize Bv F.Aj (Iq F) (Cv F) k=b at *
       unfold Ep at hm'
       split at hm'
       ·next hwk _=>
        split at hm'
        ·exact ih m hm'
        ·split at hm'
         ·have:k=m:=by omega
          subst this;exact hwk
         ·split at hm'
          ·split at hm'
           ·have:k=m:=by omega
            subst this;exact hwk
           ·exact ih m hm'
          ·exact ih m hm'
       ·exact ih m hm'
    have hw:=key _ m e
    unfold Cv at hw
    rw [List.getElem?_map,List.getElem?_range hm] at hw
    have hw':(C7 m 0 F.Af).isSome=true:=by
     have:=Option.some.inj hw
     exact this
    rw [show((m:Int)).toNat=m by omega] at hn
    rw [hn] at hw'
    cases hw'
 intro o ho
 obtain⟨n,hno⟩:=List.mem_iff_getElem?.1 ho
 have hj:=Uo o.queue F.Af 0 (hnext o.queue (h.Hl n o hno).queue) o ho rfl
 cases hd:Ig o.Bw with
 | true=> rfl
 | false=>
   obtain⟨t,ht⟩:=Ad6 hd (fun go i p hp=> by
    rcases(h.part n o go i p hno hp).st with e | e | e
    ·exact .inl e
    ·exfalso
     obtain⟨w,k,a,hs,hon,_⟩:=h.run (n,go,i) p (by unfold ofM;rw [hno];exact hp) e
     rw [hoff w k a hs] at hon
     cases hon
    ·exact .inr e)
   rw [hj] at ht
   cases ht
end Go.Proofs.YtbibeionenjmfaaGreatDoor
namespace Go.Proofs.YtbibeionenjmfaaGreatDoor
open Go.RowKit
def MB (F:Ad):Prop:=∀ t p,ofM F t=some p→(p.many:Int)≤1048576
def Fp (F:Ad) (w:Nat):Bool×Ad:=
 let F1:=(Cu F w 1048576).2
 let a:=A4 F1 w
 let b:=A4 a.2 w
 let c:=A4 b.2 w
 (decide (a.1.2=0) || decide (b.1.2=0) || decide (c.1.2=0),(Cu c.2 w 1048576).2)
def At (F:Ad):Nat→Bool×Ad
 | 0=> (false,F)
 | w+1=> ((At F w).1 || (Fp (At F w).2 w).1,(Fp (At F w).2 w).2)
def Df (F:Ad) (workers:Nat):Nat→Ad
 | 0=> F
 | n+1=> if (At F workers).1=true then Df (At F workers).2 workers n else(At F workers).2
theorem Ahs {F G:Ad} {w:Nat} (h:G.Af=F.Af∨∃ t p,ofM F t=some p∧p.st≠2∧G.Af=(setOf F t (I6 w)).Af) (u:Ev) (q:As) (hq:ofM G u=some q):∃ p,ofM F u=some p∧q.many=p.many:=by
 rcases h with h | ⟨t,p,hp,h2,h⟩
 ·rw [Pn h] at hq
  exact⟨q,hq,rfl⟩
 ·rw [Pn h,Iz] at hq
  by_cases hu:u=t
  ·rw [if_pos hu,hu,hp] at hq
   cases hq
   exact⟨p,by rw [hu];exact hp,rfl⟩
  ·rw [if_neg hu] at hq
   exact⟨q,hq,rfl⟩
theorem MB.A1 {F:Ad} (h:MB F) (w:Nat) (many:Int):∀ k,MB (A1 F w many k)
 | 0=> h
 | k+1=> fun t q hq=> by
   obtain⟨p,hp,e⟩:=Ahs (F:=Go.Proofs.YtbibeionenjmfaaGreatDoor.A1 F w many k) (G:=Br (Go.Proofs.YtbibeionenjmfaaGreatDoor.A1 F w many k) w k many) (J7 _ w k many) t q hq
   rw [e]
   exact MB.A1 h w many k t p hp
theorem V5 (F:Ad) (w k:Nat) (many:Int):(Br F w k many).Aj=F.Aj∧(Br F w k many).Ag.length=F.Ag.length:=by
 have hl:∀ a,(Au F w k a).Ag.length=F.Ag.length:=fun a=> by
  show(F.Ag.modify w _).length=_
  rw [List.length_modify]
 unfold Br
 split
 ·exact⟨rfl,rfl⟩
 ·next a _=>
  split
  ·exact⟨rfl,rfl⟩
  ·split
   ·exact⟨rfl,rfl⟩
   ·next p _=>
    dsimp only
    generalize (if 0 < many then a.at_+min many.toNat (p.many - a.at_) else a.at_)=n
    split
    ·exact⟨rfl,hl _⟩
    ·split
     ·exact⟨rfl,hl _⟩
     ·split <;> exact⟨rfl,hl _⟩
theorem N9 (F:Ad) (w:Nat) (many:Int):∀ k,(A1 F w many k).Aj=F.Aj∧(A1 F w many k).Ag.length=F.Ag.length
 | 0=> ⟨rfl,rfl⟩
 | k+1=> by
   obtain⟨h1,h2⟩:=N9 F w many k
   obtain⟨h3,h4⟩:=V5 (A1 F w many k) w k many
   exact⟨h3.trans h1,h4.trans h2⟩
structure Aoi (F G:Ad) (w:Nat):Prop where
 inv:InvM G
 mb:MB G
 qs:G.Aj=F.Aj
 len:G.Ag.length=F.Ag.length
 le:uF G.Af≤uF F.Af
 free:∀ k a,An G w k=some a→a.on=false
 Pb:∀ w' k,w'≠w→An G w' k=An F w' k
 less:∀ k a p,An F w k=some a→a.on=true→ofM F a.t=some p→p.st≠2→uF G.Af < uF F.Af
 same:(∀ k a,An F w k=some a→a.on=false)→G.Af=F.Af
theorem Ach {F:Ad} (h:InvM F) (hb:MB F) {w:Nat} (hw:w < F.Ag.length):Aoi F (Cu F w 1048576).2 w:=by
 obtain⟨row,hr⟩:∃ row,F.Ag[w]?=some row:=⟨_,List.getElem?_eq_getElem hw⟩
 have e:(Cu F w 1048576).2=A1 F w 1048576 row.length:=by
  unfold Cu
  rw [if_neg (by omega),show((w:Int)).toNat=w by omega,hr]
 have hsl:∀ k,An F w k=row[k]?:=fun k=> by unfold An;rw [hr];rfl
 rw [e]
 obtain⟨h1,h2⟩:=Nb F w 1048576 row.length
 obtain⟨h3,h4⟩:=N9 F w 1048576 row.length
 have hd:=So h (w:=w) (many:=1048576) (by omega) hb row.length
 have hlt:∀ {k a},An F w k=some a→k < row.length:=fun {k a} hk=> by
  rw [hsl] at hk
  exact(List.getElem?_eq_some_iff.1 hk).1
 refine⟨InvM.A1 h w _ _,hb.A1 w _ _,h3,h4,h1,fun k a ha=> ?_,fun w' k hne=> J8 F w _ _ (.inl hne),fun k a p ha hon hp hst=> ?_,fun hoff=> ?_⟩
 ·by_cases hk:k < row.length
  ·obtain⟨h5,_⟩:=hd k row[k] hk (by rw [hsl];exact List.getElem?_eq_getElem hk)
   rw [h5] at ha
   cases ha
   rfl
  ·rw [J8 F w _ _ (.inr (by omega))] at ha
   exact absurd (hlt ha) hk
 ·obtain⟨_,h6⟩:=hd k a (hlt ha) ha
  obtain⟨p',hp',hst'⟩:=h6 hon
  obtain⟨p'',hp'',_,_,h8⟩:=h2 a.t p hp
  rw [hp'] at hp''
  cases hp''
  exact h8 hst hst'
 ·have key:∀ k,A1 F w 1048576 k=F:=fun k=> by
   induction k with
   | zero=> rfl
   | succ k ih=>
     show Br (A1 F w 1048576 k) w k 1048576=F
     rw [ih]
     unfold Br
     split
     ·rfl
     ·next a ha=> rw [if_pos (hoff k a ha)]
  rw [key]
theorem Jz (F:Ad) (w:Int):((A4 F w).1.2≠0∧(A4 F w).2=F∧((Dy F w).2=0→H8 F=none))∨((A4 F w).1.2=0∧∃ t p b k,0≤w∧An F w.toNat k=some b∧b.on=false∧ofM F t=some p∧p.st=0∧(A4 F w).2=Ee F w.toNat k t):=by
 unfold A4
 dsimp only
 by_cases hr:(Dy F w).2=0
 ·rw [if_neg (by rw [hr];decide)]
  obtain⟨h0,b,hb,hoff⟩:=U5 hr
  cases hn:H8 F with
  | none=> exact .inl ⟨by show(5:Int)≠0;decide,rfl,fun _=> rfl⟩
  | some t=>
    obtain⟨o,ho,hj,_⟩:=Un hn
    obtain⟨p,hp,hst⟩:=Uv ho hj
    exact .inr ⟨rfl,t,p,b,_,h0,hb,hoff,hp,hst,rfl⟩
 ·rw [if_pos hr]
  exact .inl ⟨hr,rfl,fun e=> absurd e hr⟩
def Alx (F:Ad) (w:Nat):Prop:=∃ k a p,An F w k=some a∧a.on=true∧ofM F a.t=some p∧p.st≠2
structure Al5 (F G:Ad) (w:Nat):Prop where
 inv:InvM G
 mb:MB G
 qs:G.Aj=F.Aj
 len:G.Ag.length=F.Ag.length
 le:uF G.Af=uF F.Af
 Pb:∀ w' k,w'≠w→An G w' k=An F w' k
 busy:Alx F w→Alx G w
theorem Y2 {F:Ad} (h:InvM F) (hb:MB F) (w:Nat):Al5 F (A4 F w).2 w∧((A4 F w).1.2=0→Alx (A4 F w).2 w):=by
 rcases Jz F w with ⟨h1,h2,_⟩ | ⟨h1,t,p,b,k,_,hs,hoff,hp,hst,h2⟩
 ·rw [h2]
  exact⟨⟨h,hb,rfl,rfl,rfl,fun _ _ _=> rfl,fun e=> e⟩,fun e=> absurd e h1⟩
 ·have hI:=h.offer (w:Int)
  rw [h2] at hI ⊢
  rw [show((w:Int)).toNat=w by omega] at hs hI ⊢
  have hof:∀ u,ofM (Ee F w k t) u=if u=t then(ofM F u).map (fun p=> {p with st:=1}) else ofM F u:=fun u=> Iz F t u _
  have hsl:∀ w' k',An (Ee F w k t) w' k'=if w'=w∧k'=k then(An F w k).map (fun _=> ⟨true,t,(((ofM F t).map fun p=> p.saved.toNat).getD 0)⟩) else An F w' k':=fun w' k'=> Ce (setOf F t fun p=> {p with st:=1}) w k _ w' k'
  refine⟨⟨hI,fun u q hq=> ?_,rfl,?_,?_,fun w' k' hne=> ?_,fun hbu=> ?_⟩,fun _=> ?_⟩
  ·rw [hof] at hq
   by_cases hu:u=t
   ·rw [if_pos hu,hu,hp] at hq
    cases hq
    exact hb t p hp
   ·rw [if_neg hu] at hq
    exact hb u q hq
  ·show(F.Ag.modify w _).length=_
   rw [List.length_modify]
  ·have h3:=Alo (fun p=> {p with st:=1}) hp
   have e1:uP p=1:=by unfold uP;rw [if_neg (by rw [hst];decide)]
   have e2:uP {p with st:=1}=1:=rfl
   rw [e1,e2] at h3
   show uF (setOf F t fun p=> {p with st:=1}).Af=_
   omega
  ·rw [hsl,if_neg (by omega)]
  ·obtain⟨k',a,q,ha,hon,hq,hqs⟩:=hbu
   have hne:¬ (w=w∧k'=k):=by
    rintro⟨_,e⟩
    rw [e,hs] at ha
    cases ha
    rw [hoff] at hon
    cases hon
   refine⟨k',a,if a.t=t then {q with st:=1} else q,by rw [hsl,if_neg hne];exact ha,hon,?_,?_⟩
   ·rw [hof,hq]
    split <;> rfl
   ·split
    ·show(1:Int)≠2;decide
    ·exact hqs
  ·exact⟨k,_,{p with st:=1},by rw [hsl,if_pos ⟨rfl,rfl⟩,hs];rfl,rfl,by rw [hof,if_pos rfl,hp];rfl,by show(1:Int)≠2;decide⟩
theorem Aie {F:Ad} (h:InvM F) {w:Nat} (hw:w < F.Ag.length) (hf:∀ k a,An F w k=some a→a.on=false):(Dy F w).2=0:=by
 have hr:F.Ag[w]?=some F.Ag[w]:=List.getElem?_eq_getElem hw
 obtain⟨n,hn,hrow⟩:=h.rows
 have hl:=hrow _ (List.getElem_mem hw)
 unfold Dy
 rw [if_neg (by omega),show((w:Int)).toNat=w by omega,hr]
 dsimp only
 cases hfi:F.Ag[w].findIdx? (fun a=> !a.on) with
 | some k=> rfl
 | none=>
   exfalso
   have h1:=List.findIdx?_eq_none_iff.1 hfi
   have h0:0 < F.Ag[w].length:=by omega
   have h2:=h1 F.Ag[w][0] (List.getElem_mem h0)
   have h3:=hf 0 F.Ag[w][0] (by unfold An;rw [hr];exact List.getElem?_eq_getElem h0)
   rw [h3] at h2
   cases h2
end Go.Proofs.YtbibeionenjmfaaGreatDoor
namespace Go.Proofs.YtbibeionenjmfaaGreatDoor
open Go.RowKit
structure Round (F:Ad) (s:Bool) (G:Ad) (w:Nat):Prop where
 inv:InvM G
 mb:MB G
 qs:G.Aj=F.Aj
 len:G.Ag.length=F.Ag.length
 le:uF G.Af≤uF F.Af
 less:s=true→uF G.Af < uF F.Af
 free:∀ k a,An G w k=some a→a.on=false
 Pb:∀ w' k,w'≠w→An G w' k=An F w' k
 done:s=false→(∀ q∈F.Aj,0 < q.2)→(∀ w' k a,w'≠w→An F w' k=some a→a.on=false)→∀ o∈G.Af,Ig o.Bw=true
theorem Aft {F:Ad} (h:InvM F) (hb:MB F) {w:Nat} (hw:w < F.Ag.length):Round F (Fp F w).1 (Fp F w).2 w:=by
 have W:=Ach h hb hw
 unfold Fp
 dsimp only
 generalize hF1:(Cu F w 1048576).2=F1 at *
 obtain⟨A,hA⟩:=Y2 W.inv W.mb w
 have cA:=Jz F1 w
 obtain⟨B,hB⟩:=Y2 A.inv A.mb w
 have cB:=Jz (A4 F1 w).2 w
 obtain⟨C,hC⟩:=Y2 B.inv B.mb w
 have cC:=Jz (A4 (A4 F1 w).2 w).2 w
 have hw4:w < (A4 (A4 (A4 F1 w).2 w).2 w).2.Ag.length:=by rw [C.len,B.len,A.len,W.len];exact hw
 have V:=Ach C.inv C.mb hw4
 refine⟨V.inv,V.mb,by rw [V.qs,C.qs,B.qs,A.qs,W.qs],by rw [V.len,C.len,B.len,A.len,W.len],?_,fun hs=> ?_,V.free,fun w' k hne=> by rw [V.Pb w' k hne,C.Pb w' k hne,B.Pb w' k hne,A.Pb w' k hne,W.Pb w' k hne],fun hs hc hoff=> ?_⟩
 ·have:=V.le;have:=W.le;have:=A.le;have:=B.le;have:=C.le;omega
 ·have hbusy:Alx (A4 (A4 (A4 F1 w).2 w).2 w).2 w:=by
   rw [Bool.or_eq_true,Bool.or_eq_true,decide_eq_true_eq,decide_eq_true_eq,decide_eq_true_eq] at hs
   rcases hs with (e | e) | e
   ·exact C.busy (B.busy (hA e))
   ·exact C.busy (hB e)
   ·exact hC e
  obtain⟨k,a,p,h1,h2,h3,h4⟩:=hbusy
  have:=V.less k a p h1 h2 h3 h4
  have:=W.le;have:=A.le;have:=B.le;have:=C.le;omega
 ·rw [Bool.or_eq_false_iff,Bool.or_eq_false_iff,decide_eq_false_iff_not,decide_eq_false_iff_not,decide_eq_false_iff_not] at hs
  obtain⟨⟨e1,e2⟩,e3⟩:=hs
  have fA:(A4 F1 w).2=F1∧H8 F1=none:=by
   rcases cA with ⟨_,h2,h3⟩ | ⟨h1,_⟩
   ·exact⟨h2,h3 (Aie W.inv (by rw [W.len];exact hw) W.free)⟩
   ·exact absurd h1 e1
  have fB:(A4 (A4 F1 w).2 w).2=F1:=by
   rcases cB with ⟨_,h2,_⟩ | ⟨h1,_⟩
   ·rw [h2,fA.1]
   ·exact absurd h1 e2
  have fC:(A4 (A4 (A4 F1 w).2 w).2 w).2=F1:=by
   rcases cC with ⟨_,h2,_⟩ | ⟨h1,_⟩
   ·rw [h2,fB]
   ·exact absurd h1 e3
  have hj:(Cu (A4 (A4 (A4 F1 w).2 w).2 w).2 w 1048576).2.Af=F1.Af:=by
   rw [V.same (by rw [fC];exact W.free),fC]
  rw [hj]
  refine Aji W.inv (by rw [W.qs];exact hc) (fun w' k a ha=> ?_) fA.2
  by_cases e:w'=w
  ·rw [e] at ha
   exact W.free k a ha
  ·rw [W.Pb w' k e] at ha
   exact hoff w' k a e ha
structure Aoh (F:Ad) (s:Bool) (G:Ad) (m:Nat):Prop where
 inv:InvM G
 mb:MB G
 qs:G.Aj=F.Aj
 len:G.Ag.length=F.Ag.length
 le:uF G.Af≤uF F.Af
 less:s=true→uF G.Af < uF F.Af
 free:∀ w k a,w < m→An G w k=some a→a.on=false
theorem U7 {F:Ad} (h:InvM F) (hb:MB F):∀ m,m≤F.Ag.length→Aoh F (At F m).1 (At F m).2 m
 | 0,_=> ⟨h,hb,rfl,rfl,Nat.le_refl _,fun hc=> (by cases hc),fun _ _ _ hw=> (by omega)⟩
 | m+1,hm=> by
   have R:=U7 h hb m (by omega)
   have W:=Aft R.inv R.mb (w:=m) (by rw [R.len];omega)
   refine⟨W.inv,W.mb,W.qs.trans R.qs,W.len.trans R.len,Nat.le_trans W.le R.le,fun hs=> ?_,fun w k a hw ha=> ?_⟩
   ·have hs':((At F m).1 || (Fp (At F m).2 m).1)=true:=hs
    rw [Bool.or_eq_true] at hs'
    rcases hs' with e | e
    ·exact Nat.lt_of_le_of_lt W.le (R.less e)
    ·exact Nat.lt_of_lt_of_le (W.less e) R.le
   ·by_cases e:w=m
    ·rw [e] at ha
     exact W.free k a ha
    ·have ha':An (Fp (At F m).2 m).2 w k=some a:=ha
     rw [W.Pb w k e] at ha'
     exact R.free w k a (by omega) ha'
theorem Aen {F:Ad} (h:InvM F) (hb:MB F) (hc:∀ q∈F.Aj,0 < q.2) (hn:(At F F.Ag.length).1=false):∀ o∈(At F F.Ag.length).2.Af,Ig o.Bw=true:=by
 obtain⟨m,hm⟩:∃ m,F.Ag.length=m+1:=⟨F.Ag.length - 1,by have:=h.ws;omega⟩
 rw [hm] at hn ⊢
 have hn':((At F m).1 || (Fp (At F m).2 m).1)=false:=hn
 rw [Bool.or_eq_false_iff] at hn'
 have R:=U7 h hb m (by omega)
 have W:=Aft R.inv R.mb (w:=m) (by rw [R.len];omega)
 refine W.done hn'.2 (by rw [R.qs];exact hc) (fun w k a hne ha=> ?_)
 by_cases e:w < m
 ·exact R.free w k a e ha
 ·exfalso
  unfold An at ha
  rw [List.getElem?_eq_none (by rw [R.len];omega)] at ha
  cases ha
theorem Amj {F:Ad} (h:InvM F) (hb:MB F):∀ n,InvM (Df F F.Ag.length n)∧MB (Df F F.Ag.length n)∧(Df F F.Ag.length n).Aj=F.Aj∧(Df F F.Ag.length n).Ag.length=F.Ag.length∧(uF F.Af < n→(∀ q∈F.Aj,0 < q.2)→∀ o∈(Df F F.Ag.length n).Af,Ig o.Bw=true):=fun n=> by
 induction n generalizing F with
 | zero=> exact⟨h,hb,rfl,rfl,fun hc=> by omega⟩
 | succ n ih=>
   have R:=U7 h hb F.Ag.length (Nat.le_refl _)
   show InvM (if (At F F.Ag.length).1=true then Df (At F F.Ag.length).2 F.Ag.length n else(At F F.Ag.length).2)∧MB (if (At F F.Ag.length).1=true then Df (At F F.Ag.length).2 F.Ag.length n else(At F F.Ag.length).2)∧(if (At F F.Ag.length).1=true then Df (At F F.Ag.length).2 F.Ag.length n else(At F F.Ag.length).2).Aj=F.Aj∧(if (At F F.Ag.length).1=true then Df (At F F.Ag.length).2 F.Ag.length n else(At F F.Ag.length).2).Ag.length=F.Ag.length∧(uF F.Af < n+1→(∀ q∈F.Aj,0 < q.2)→∀ o∈(if (At F F.Ag.length).1=true then Df (At F F.Ag.length).2 F.Ag.length n else(At F F.Ag.length).2).Af,Ig o.Bw=true)
   cases hs:(At F F.Ag.length).1 with
   | true=>
     rw [if_pos rfl]
     have h1:=ih R.inv R.mb
     rw [R.len] at h1
     obtain⟨h2,h3,h4,h5,h6⟩:=h1
     exact⟨h2,h3,h4.trans R.qs,h5,fun hu hc=> h6 (by have:=R.less hs;omega) (by rw [R.qs];exact hc)⟩
   | false=>
     rw [if_neg (by decide)]
     exact⟨R.inv,R.mb,R.qs,R.len,fun _ hc=> Aen h hb hc hs⟩
def Ys (o:Ba):Nat×List Aw×Int×Nat×Bool×List ByteArray×Nat×List ByteArray×Nat×Nat:=(o.queue,o.rs,o.fold,o.slices,o.early,o.lines,o.size,o.out,o.parts.length,o.Bw.length)
def Dw (F:Ad):=F.Af.map Ys
theorem Ake (o:Ba) (fo:Bool) (i:Nat) (f:As→As):Ys (A5 o fo i f)=Ys o:=by
 unfold A5 Ys
 split <;> simp [List.length_modify]
theorem L9 {α β:Type} (g:α→β) (f:α→α) (h:∀ x,g (f x)=g x):∀ (l:List α) (i:Nat),(l.modify i f).map g=l.map g
 | [],i=> by cases i <;> rfl
 | x::l,0=> by simp [List.modify_zero_cons,h]
 | x::l,i+1=> by simp [List.modify_succ_cons,L9 g f h l i]
theorem Uc (F:Ad) (t:Ev) (f:As→As):Dw (setOf F t f)=Dw F:=L9 Ys _ (fun o=> Ake o _ _ _) _ _
theorem Aa4 (F:Ad) (w k:Nat) (many:Int):Dw (Br F w k many)=Dw F:=by
 rcases J7 F w k many with e | ⟨t,p,_,_,e⟩
 ·unfold Dw;rw [e]
 ·have:=Uc F t (I6 w)
  unfold Dw at this ⊢
  rw [e]
  exact this
theorem Mp (F:Ad) (w:Nat) (many:Int):∀ k,Dw (A1 F w many k)=Dw F
 | 0=> rfl
 | k+1=> (Aa4 _ w k many).trans (Mp F w many k)
theorem Qu (F:Ad) (w many:Int):Dw (Cu F w many).2=Dw F:=by
 unfold Cu
 split
 ·rfl
 ·split
  ·rfl
  ·exact Mp _ _ _ _
theorem Adt (F:Ad) (w k:Nat) (t:Ev):Dw (Ee F w k t)=Dw F:=Uc F t _
theorem Lp (F:Ad) (w:Int):Dw (A4 F w).2=Dw F:=by
 unfold A4
 dsimp only
 split
 ·rfl
 ·split
  ·rfl
  ·exact Adt _ _ _ _
theorem Adu (F:Ad) (w:Nat):Dw (Fp F w).2=Dw F:=by
 unfold Fp
 dsimp only
 rw [Qu,Lp,Lp,Lp,Qu]
theorem Mo (F:Ad):∀ m,Dw (At F m).2=Dw F
 | 0=> rfl
 | m+1=> (Adu _ m).trans (Mo F m)
theorem Akh (F:Ad) (m:Nat):∀ n,Dw (Df F m n)=Dw F:=fun n=> by
 induction n generalizing F with
 | zero=> rfl
 | succ n ih=>
   show Dw (if (At F m).1=true then _ else _)=_
   split
   ·exact(ih _).trans (Mo F m)
   ·exact Mo F m
end Go.Proofs.YtbibeionenjmfaaGreatDoor
namespace Go.Proofs.YtbibeionenjmfaaGreatDoor
open Go.RowKit
theorem Z9 (l:List As):Hj l=l.length↔Ig l=true:=by
 unfold Hj Ig
 rw [List.length_filter_eq_length_iff,List.all_eq_true]
end Go.Proofs.YtbibeionenjmfaaGreatDoor
namespace Go.Proofs.YtbibeionenjmfaaGreatDoor
open Go.RowKit
theorem Rm (x:Int×Int):∀ u∈Bx x,u.oneCell'=true:=fun u h=> by
 simp only [Bx,List.mem_cons,List.not_mem_nil,or_false] at h
 rcases h with rfl | rfl <;> rfl
theorem Ahn:(Tryz.prog.info? 60).map (fun i=> (i.zero,i.size,i.bytes))=some (some (.agg #[.int .i64 0, .int .i64 0]),2,16):=by kernel_rfl
def Fo (a k:Nat):List (Int×Int):=(List.range k).map fun j:Nat=> ((a:Int),(j:Int))
theorem Lt (a k:Nat):(Fo a k).length=k:=by unfold Fo;simp
theorem V1 (a k:Nat):Fo a (k+1)=Fo a k++ [((a:Int),(k:Int))]:=by unfold Fo;rw [List.range_succ,List.map_append];rfl
theorem Y6 {a n k:Nat} (h:k < n):(Fo a n)[k]?=some ((a:Int),(k:Int)):=by unfold Fo;simp [h]
section
variable {w0 w w':World} {own:Nat→Ez} {G:Bg} {F F':Ad}
set_option maxHeartbeats 1000000 in
theorem Agi (a:Int) (h:B8 w0 w own G F) (hn:¬ (0≤a∧a < F.Ag.length)):Calls Tryz.prog 45 #[.pointer (some ⟨G.fb,0,none⟩), .int .i64 a] w fun e w'=> e= .returned (.tuple #[.slice none 0 0,Du 5])∧Below w.heap.size w w':=by
 have HS:=Aa (Wd h)
 have c1:=h.bk.get (j:=1) rfl
 rw [Ar (by decide)]
 clear h
 generalize F.Ag.length=m at *
 by_cases h0:a < 0
 ·have e1:decide (a < 0)=true:=by simpa using h0
  go_enter Tryz.func45,Tryz.ntmps45
  go_wp2_with fail
  refine HS.out.mono ?_
  rintro e w1 ⟨rfl,b1⟩
  have HB:=Aa b1
  clear b1 HS c1
  go_wp2
  go_ret2
  exact⟨rfl,HB.out⟩
 ·have e1:decide (a < 0)=false:=by simpa using h0
  obtain⟨i,rfl⟩:∃ i:Nat,a=i:=⟨a.toNat,by omega⟩
  have e2:decide (m≤i)=true:=by simp;omega
  go_enter Tryz.func45,Tryz.ntmps45
  go_wp2_with fail
  refine HS.out.mono ?_
  rintro e w1 ⟨rfl,b1⟩
  have HB:=Aa b1
  clear b1 HS c1
  go_wp2
  go_ret2
  exact⟨rfl,HB.out⟩
set_option maxHeartbeats 1000000 in
theorem Acr {a:Nat} (h:B8 w0 w own G F) (ha:a < F.Ag.length):Calls Tryz.prog 45 #[.pointer (some ⟨G.fb,0,none⟩), .int .i64 a] w fun e w'=> ∃ ao cap,e= .returned (.tuple #[.slice ao G.n cap, .nilIface])∧Own 2 Bx 60 w' w.heap.size (.slice ao G.n cap) (Fo a G.n)∧Below w.heap.size w w':=by
 obtain⟨i0,hi,hz0,hz1,hz2⟩:=info_parts Ahn
 have HS:=Aa (Wd h)
 have c1:=h.bk.get (j:=1) rfl
 have hn3:=h.bt.ln
 have e1:decide ((a:Int) < 0)=false:=by simp
 have e2:decide (F.Ag.length≤a)=false:=by simp;omega
 clear h
 generalize F.Ag.length=m at *
 generalize G.n=n at *
 go_enter Tryz.func45,Tryz.ntmps45
 go_wp2_with fail
 refine HS.out.mono ?_
 rintro e w1 ⟨rfl,b1⟩
 have HB:=Aa b1
 clear b1 HS c1
 go_wp2
 go_loopw [8,27] (fun v i wr=> ∃ k:Nat,k≤n∧i= .int .i64 k∧Hid (Own 2 Bx 60 wr w.heap.size v (Fo a k))∧Hid (Below w.heap.size w wr)) (fun _ i _=> n - (intOf i).toNat)
 case atStart=> exact⟨0,by omega,by go_num,(Own.nil:Own 2 Bx 60 w1 w.heap.size (.slice none 0 0) []),HB⟩
 case round=>
  clear HB
  obtain⟨k,hk,rfl,HOW,HBE⟩:=hrel
  by_cases hlt:k < n
  ·have hle:=Lt a k
   have HSU:=Aa (V1 a k)
   generalize Fo a k=acc at *
   have HLE:Hid (acc.length+1≤1000000000):=by show _≤_;omega
   obtain⟨ua,uc,rfl⟩:=id HOW.out.1
   have HOA:=Aa (HOW.out.alloc (.cells #[.int .i64 a, .int .i64 k] 60))
   have HBA:=Aa (HBE.out.alloc HBE.out.size (.cells #[.int .i64 a, .int .i64 k] 60))
   have HSZ:Hid (w.heap.size≤(wr.alloc (.cells #[.int .i64 a, .int .i64 k] 60)).heap.size):=HBA.out.size
   clear hle
   go_wp2_with (at_builtin;refine Bi Be _ _ 106 i0 _ rfl rfl Tryz.underlying106 hi hz0 hz1 hz2 rfl (by decide) (by decide) HOA.out HBA.out HSZ.out HLE.out rfl ((a:Int),(k:Int)) ⟨wr.heap.size,0,none⟩ 1 rfl (Fc rfl rfl) (Rm _) ?_)
   intro v' w2 ho hb _ _
   have HO:=Aa ho
   have HB:=Aa hb
   clear ho hb HOW HBE HOA HBA
   go_wp2
   go_roundw
   case rel=> exact⟨k+1,by omega,by go_num,by rw [HSU.out];exact HO,HB⟩
   case measure=> (simp [intOf];try omega)
  ·obtain rfl:k=n:=by omega
   obtain⟨ua,uc,rfl⟩:=id HOW.out.1
   rw [Lt] at HOW ⊢
   go_wp2
   go_ret2
   exact⟨ua,uc,rfl,HOW.out,HBE.out⟩
end
end Go.Proofs.YtbibeionenjmfaaGreatDoor
namespace Go.Proofs.YtbibeionenjmfaaGreatDoor
open Go.RowKit
section
variable {w0 w w':World} {own:Nat→Ez} {G:Bg} {F F':Ad}
set_option maxRecDepth 100000 in
set_option maxHeartbeats 1000000 in
theorem Acs (n:Int) (h:B8 w0 w own G F) (hn:¬ (0≤n∧n < F.Af.length)):Calls Tryz.prog 16 #[.pointer (some ⟨G.fb,0,none⟩), .int .i64 n] w fun e w'=> e= .returned (.tuple #[Up,Du 5])∧Below w.heap.size w w':=by
 obtain⟨W,hW⟩:∃ W,W=w.alloc (.cells #[.int .i64 0, .int .i64 0, .int .i64 0, .int .i64 0, .int .i64 0, .bool false] 25):=⟨_,rfl⟩
 have hb:Below w.heap.size w W:=by rw [hW];exact ba w _
 have ht:Bk W w.heap.size [.int .i64 0, .int .i64 0, .int .i64 0, .int .i64 0, .int .i64 0, .bool false]:=by rw [hW];exact Bk.new rfl
 obtain⟨ao,cap,ej,_⟩:=h.Xd
 have cj:=cell_later hb (h.bk.get (j:=3) rfl)
 rw [ej] at cj
 have HW:=Aa hW
 have HB:=Aa hb
 have HT:=Aa ht
 unfold Up
 rw [Ar (by decide)]
 clear h hW hb ht ej
 generalize F.Af.length=m at *
 by_cases h0:n < 0
 ·have e1:decide (n < 0)=true:=by simpa using h0
  go_enter Tryz.func16,Tryz.ntmps16
  have hk9:=HT.out.s6 (.int .i64 0) (.int .i64 0) (.int .i64 0) (.int .i64 0) (.int .i64 0) (.bool false)
  have f0:=hk9.get (j:=0) rfl
  have f1:=hk9.get (j:=1) rfl
  have f2:=hk9.get (j:=2) rfl
  have f3:=hk9.get (j:=3) rfl
  have f4:=hk9.get (j:=4) rfl
  have f5:=hk9.get (j:=5) rfl
  have y0:=hk9.fz 0
  have y1:=hk9.fz 1
  have y2:=hk9.fz 2
  have y3:=hk9.fz 3
  have y4:=hk9.fz 4
  have y5:=hk9.fz 5
  have HB9:=Aa (Tm (.int .i64 0) (.int .i64 0) (.int .i64 0) (.int .i64 0) (.int .i64 0) (.bool false) HB.out (Nat.le_refl w.heap.size))
  have c0:=HT.out.get (j:=0) rfl
  have c1:=HT.out.get (j:=1) rfl
  have c2:=HT.out.get (j:=2) rfl
  have c4:=HT.out.get (j:=4) rfl
  have c5:=HT.out.get (j:=5) rfl
  have z0:=HT.out.fz 0
  have z1:=HT.out.fz 1
  have z2:=HT.out.fz 2
  have z3:=HT.out.fz 3
  have z4:=HT.out.fz 4
  have z5:=HT.out.fz 5
  have c3':=HT.out.get (j:=3) rfl
  clear hk9
  go_upto_region 1 with (fail)
  rw [←HW.out]
  clear HW
  go_wp2
  refine bodyPost_ret (v:= .tuple #[.agg #[.int .i64 0, .int .i64 0, .int .i64 0, .int .i64 0, .int .i64 0, .bool false], .iface 91 (.int .i64 5)]) (by simp [results,Tryz.results16,go_sem,f0,f1,f2,f3,f4,f5,y0,y1,y2,y3,y4,y5]) rfl ⟨rfl,HB9.out⟩
 ·have e1:decide (n < 0)=false:=by simpa using h0
  obtain⟨i,rfl⟩:∃ i:Nat,n=i:=⟨n.toNat,by omega⟩
  have e2:decide (m≤i)=true:=by simp;omega
  go_enter Tryz.func16,Tryz.ntmps16
  have hk9:=HT.out.s6 (.int .i64 0) (.int .i64 0) (.int .i64 0) (.int .i64 0) (.int .i64 0) (.bool false)
  have f0:=hk9.get (j:=0) rfl
  have f1:=hk9.get (j:=1) rfl
  have f2:=hk9.get (j:=2) rfl
  have f3:=hk9.get (j:=3) rfl
  have f4:=hk9.get (j:=4) rfl
  have f5:=hk9.get (j:=5) rfl
  have y0:=hk9.fz 0
  have y1:=hk9.fz 1
  have y2:=hk9.fz 2
  have y3:=hk9.fz 3
  have y4:=hk9.fz 4
  have y5:=hk9.fz 5
  have HB9:=Aa (Tm (.int .i64 0) (.int .i64 0) (.int .i64 0) (.int .i64 0) (.int .i64 0) (.bool false) HB.out (Nat.le_refl w.heap.size))
  have c0:=HT.out.get (j:=0) rfl
  have c1:=HT.out.get (j:=1) rfl
  have c2:=HT.out.get (j:=2) rfl
  have c4:=HT.out.get (j:=4) rfl
  have c5:=HT.out.get (j:=5) rfl
  have z0:=HT.out.fz 0
  have z1:=HT.out.fz 1
  have z2:=HT.out.fz 2
  have z3:=HT.out.fz 3
  have z4:=HT.out.fz 4
  have z5:=HT.out.fz 5
  have c3':=HT.out.get (j:=3) rfl
  clear hk9
  go_upto_region 1 with (fail)
  rw [←HW.out]
  clear HW
  go_wp2
  refine bodyPost_ret (v:= .tuple #[.agg #[.int .i64 0, .int .i64 0, .int .i64 0, .int .i64 0, .int .i64 0, .bool false], .iface 91 (.int .i64 5)]) (by simp [results,Tryz.results16,go_sem,f0,f1,f2,f3,f4,f5,y0,y1,y2,y3,y4,y5]) rfl ⟨rfl,HB9.out⟩
set_option maxRecDepth 100000 in
set_option maxHeartbeats 1000000 in
theorem Zt {n:Nat} {o:Ba} (h:B8 w0 w own G F) (ho:F.Af[n]?=some o):Calls Tryz.prog 16 #[.pointer (some ⟨G.fb,0,none⟩), .int .i64 n] w fun e w'=> e= .returned (.tuple #[Zd o, .nilIface])∧Below w.heap.size w w':=by
 obtain⟨W,hW⟩:∃ W,W=w.alloc (.cells #[.int .i64 0, .int .i64 0, .int .i64 0, .int .i64 0, .int .i64 0, .bool false] 25):=⟨_,rfl⟩
 have hb:Below w.heap.size w W:=by rw [hW];exact ba w _
 have ht:Bk W w.heap.size [.int .i64 0, .int .i64 0, .int .i64 0, .int .i64 0, .int .i64 0, .bool false]:=by rw [hW];exact Bk.new rfl
 obtain⟨g,gb,cap,hg,ej,cjn,hjc,_⟩:=h.Rt ho
 obtain⟨pa,pc,ep,_⟩:=hjc.Y5
 have hnl:=(List.getElem?_eq_some_iff.1 ho).1
 have cj:=cell_later hb (h.bk.get (j:=3) rfl)
 rw [ej] at cj
 have cn:=cell_later hb cjn
 have x0:=cell_later hb (hjc.hd.bk.get (j:=0) rfl)
 have x5:=cell_later hb (hjc.hd.bk.get (j:=5) rfl)
 have x6:=cell_later hb (hjc.hd.bk.get (j:=6) rfl)
 have x7:=cell_later hb (hjc.hd.bk.get (j:=7) rfl)
 rw [ep] at x6
 have hrt:=hjc.tk.rt.below hb
 have HCO:=Aa fun W' (k:Below W.heap.size W W')=> Z4 (hrt.below k)
 have HOU:=Aa fun W' (k:Below W.heap.size W W')=> Wj (hrt.below k)
 simp only [Ae9] at HCO
 simp only [Jq] at HOU
 have HW:=Aa hW
 have HB:=Aa hb
 have HT:=Aa ht
 have e1:decide ((n:Int) < 0)=false:=by simp
 have e2:decide (F.Af.length≤n)=false:=by simp;omega
 unfold Zd
 generalize hq:(o.queue:Int)=oq at *
 generalize Hj o.parts=cp at *
 generalize Hj o.Bw=cs at *
 obtain⟨db,hdb⟩:∃ db,decide (cs=o.Bw.length)=db:=⟨_,rfl⟩
 rw [hdb] at HOU ⊢
 generalize o.parts.length=np at *
 generalize o.slices=ns at *
 generalize g.xb=xb at *
 generalize g.tb=tb at *
 generalize g.ob=ob at *
 generalize F.Af.length=m at *
 clear hW hb ht ej ep hrt hdb hjc hg cjn ho h hq
 go_enter Tryz.func16,Tryz.ntmps16
 go_upto_region 1 with (fail)
 rw [←HW.out]
 clear HW
 go_wp2_with fail
 refine(HCO.out _ (Below.refl _ _)).mono ?_
 rintro e W2 ⟨rfl,b2⟩
 replace HB:=Aa (HB.out.trans (b2.mono HB.out.size))
 replace HT:=Aa (HT.out.later b2)
 replace x0:=cell_later b2 x0
 replace x5:=cell_later b2 x5
 replace x6:=cell_later b2 x6
 replace x7:=cell_later b2 x7
 replace HOU:=Aa fun W' (k:Below W2.heap.size W2 W')=> HOU.out W' (b2.trans (k.mono b2.size))
 clear HCO cj cn b2
 go_upto_region 5 with (fail)
 have r0:=cell_regrown x0
 have r5:=cell_regrown x5
 have r6:=cell_regrown x6
 have r7:=cell_regrown x7
 refine D3 21 (by kernel_rfl) (by kernel_rfl) ?_
 simp only [List.take_succ_cons,List.take_zero,List.drop_succ_cons,List.drop_zero]
 repeat (go_big_quiet_step (first | (go_at_call 42;exact Calls.regrown_of (HOU.out _ (below_regrown _ _ _)))))
 refine wpQuiet_nil ?_
 intro _ hw'
 obtain⟨⟨dq,osq⟩,hw''⟩:=hw'
 subst hw''
 have hbg:=below_regrown W2 dq osq
 replace HB:=Aa (HB.out.trans (hbg.mono HB.out.size))
 replace HT:=Aa (HT.out.later hbg)
 clear r0 r5 r6 r7 x0 x5 x6 x7 hbg HOU
 generalize Go.Sort.grow (redrawn W2 dq) osq=W6 at *
 have c0:=HT.out.get (j:=0) rfl
 have c1:=HT.out.get (j:=1) rfl
 have c2:=HT.out.get (j:=2) rfl
 have c3:=HT.out.get (j:=3) rfl
 have c4:=HT.out.get (j:=4) rfl
 have c5:=HT.out.get (j:=5) rfl
 have z0:=HT.out.fz 0
 have z1:=HT.out.fz 1
 have z2:=HT.out.fz 2
 have z3:=HT.out.fz 3
 have z4:=HT.out.fz 4
 have z5:=HT.out.fz 5
 have hk9:=HT.out.s6 (.int .i64 oq) (.int .i64 np) (.int .i64 cp) (.int .i64 ns) (.int .i64 cs) (.bool db)
 have f0:=hk9.get (j:=0) rfl
 have f1:=hk9.get (j:=1) rfl
 have f2:=hk9.get (j:=2) rfl
 have f3:=hk9.get (j:=3) rfl
 have f4:=hk9.get (j:=4) rfl
 have f5:=hk9.get (j:=5) rfl
 have y0:=hk9.fz 0
 have y1:=hk9.fz 1
 have y2:=hk9.fz 2
 have y3:=hk9.fz 3
 have y4:=hk9.fz 4
 have y5:=hk9.fz 5
 have HB9:=Aa (Tm (.int .i64 oq) (.int .i64 np) (.int .i64 cp) (.int .i64 ns) (.int .i64 cs) (.bool db) HB.out (Nat.le_refl w.heap.size))
 clear hk9
 go_wp2
 exact bodyPost_ret (v:= .tuple #[.agg #[.int .i64 oq, .int .i64 np, .int .i64 cp, .int .i64 ns, .int .i64 cs, .bool db], .nilIface]) (by simp [results,Tryz.results16,go_sem,f0,f1,f2,f3,f4,f5,y0,y1,y2,y3,y4,y5]) rfl ⟨rfl,HB9.out⟩
end
end Go.Proofs.YtbibeionenjmfaaGreatDoor
