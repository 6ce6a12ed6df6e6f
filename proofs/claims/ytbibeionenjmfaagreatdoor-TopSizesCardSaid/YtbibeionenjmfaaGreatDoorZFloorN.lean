/- A floor (plain): offering keeps what holds; what is offered is free. -/
import Derived.Test.YtbibeionenjmfaaGreatDoorZMSave
import Derived.Test.YtbibeionenjmfaaGreatDoorZQueue
import Derived.Lib.Join
import Derived.Test.YtbibeionenjmfaaGreatDoorZJRule
import Derived.Test.YtbibeionenjmfaaGreatDoorZJText3
set_option linter.unusedSimpArgs false
set_option linter.unusedVariables false
namespace Go.Proofs.YtbibeionenjmfaaGreatDoor
open Go.RowKit
def Aaw (v:Value):Option (DataW Value×List MemPlace):=some (.held v, [])
def Ds (w:World) (P:Program) (k:TypeId) (b:Nat) (f:Value→Option Value):Prop:=
 ∃ n D,w.ownsMap P k Aaw b n D∧∀ key kl,keyOf P k key=some kl→(f key=none∧Maps.has D kl=false)∨∃ v,f key=some v∧Maps.has D kl=true∧∀ z,D.atKey kl z= .held v
open Classical in
noncomputable def M8 (f:Value→Option Value) (key:Value) (v:Option Value):Value→Option Value:=fun x=> if x=key then v else f x
theorem Hu (f:Value→Option Value) (key:Value) (v:Option Value):M8 f key v key=v:=if_pos rfl
theorem Fx {f:Value→Option Value} {key x:Value} {v:Option Value} (h:x≠key):M8 f key v x=f x:=if_neg h
section
variable {w w':World} {P:Program} {k t e:TypeId} {b:Nat} {f:Value→Option Value}
theorem Ds.kept {T:Nat→Prop} (h:Ds w P k b f) (hk:Ab T w w') (hT:¬ T b):Ds w' P k b f:=by
 obtain⟨n,D,⟨es,clock,hb,r⟩,hf⟩:=h
 exact⟨n,D,⟨es,clock,by rw [hk.block b (Array.getElem?_eq_some_iff.1 hb).1 hT];exact hb,r⟩,hf⟩
theorem Ds.lt (h:Ds w P k b f):b < w.heap.size:=by
 obtain⟨n,D,h,_⟩:=h
 exact h.lt
theorem Ds.made (w:World) (P:Program) (k:TypeId):Ds (w.alloc (.map #[] 0)) P k w.heap.size fun _=> none:=
 ⟨0, .map [],World.ownsMap_made w P k Aaw,fun key kl _=> .inl ⟨rfl,rfl⟩⟩
theorem Ds.look (h:Ds w P k b f) (K:Maps.Keyed P k) (ht:P.underlying t=some (.map k e)) {z:Value} (hz:(zeroValue e).run P w= .ok z w) {key:Value} {kl:Lit} (hkey:keyOf P k key=some kl):
 (Instr.lookup t (.map (some b)) key true).run P w= .ok (.tuple #[(f key).getD z, .bool (f key).isSome]) w:=by
 obtain⟨n,D,ho,hf⟩:=h
 obtain⟨v,ps,hrun,hv⟩:=ho.look_ok K ht hz (zd:= .held z) (zp:= []) rfl hkey
 have hv2:D.atKey kl (.held z)= .held v:=by
  have:=congrArg (Option.map Prod.fst) hv
  simpa [Aaw] using this.symm
 rw [hrun]
 rcases hf key kl hkey with ⟨h1,h2⟩ | ⟨u,h1,h2,h3⟩
 ·rw [Maps.atKey_of_not_has h2] at hv2
  cases hv2
  rw [h1,h2];rfl
 ·rw [h3] at hv2
  cases hv2
  rw [h1,h2];rfl
theorem Ds.Apr (h:Ds w P k b f) (K:Maps.Keyed P k) (ht:P.underlying t=some (.map k e)) {z:Value} (hz:(zeroValue e).run P w= .ok z w) {key:Value} {kl:Lit} (hkey:keyOf P k key=some kl):
 (Instr.lookup t (.map (some b)) key false).run P w= .ok ((f key).getD z) w:=by
 obtain⟨n,D,ho,hf⟩:=h
 obtain⟨v,ps,hrun,hv⟩:=ho.lookup K ht hz (zd:= .held z) (zp:= []) rfl hkey
 have hv2:D.atKey kl (.held z)= .held v:=by
  have:=congrArg (Option.map Prod.fst) hv
  simpa [Aaw] using this.symm
 rw [hrun]
 rcases hf key kl hkey with ⟨h1,h2⟩ | ⟨u,h1,h2,h3⟩
 ·rw [Maps.atKey_of_not_has h2] at hv2
  cases hv2
  rw [h1];rfl
 ·rw [h3] at hv2
  cases hv2
  rw [h1];rfl
theorem Sm (h:w.mapTurned w' b):Ab (fun q=> q=b) w w':=Ab.A9 h.grown fun q e=> (Option.some.inj e).symm
theorem Ds.drop (h:Ds w P k b f) (K:Maps.Keyed P k) (ht:P.underlying t=some (.map k e)) {key:Value} {kl:Lit} (hkey:keyOf P k key=some kl) (ty:TypeId):
 ∃ w',(Builtin.delete_ #[t,k] ty #[.map (some b),key]).run P w= .ok (.tuple #[]) w'∧Ds w' P k b (M8 f key none)∧Ab (fun q=> q=b) w w':=by
 obtain⟨n,D,ho,hf⟩:=h
 obtain⟨w',hrun,ho',htn⟩:=ho.drop K ht hkey ty
 refine⟨w',hrun,⟨n,D.del kl,ho',fun x xl hx=> ?_⟩,Sm htn⟩
 by_cases hxe:x=key
 ·subst hxe
  rw [hkey] at hx
  obtain rfl:=Option.some.inj hx
  exact .inl ⟨Hu _ _ _,Maps.has_del_same⟩
 ·have hne:xl≠kl:=fun e=> hxe (K.inj (e ▸ hx) hkey)
  rw [Fx hxe,Maps.has_del_other hne]
  simp only [Maps.atKey_del_other hne]
  exact hf x xl hx
theorem L8 {α:Type}:∀ (l L:List α),l.Pairwise (fun a b=> a≠b)→(∀ x∈l,x∈L)→l.length≤L.length
 | [],_,_,_=> Nat.zero_le _
 | x::r,L,hp,hs=> by
   obtain⟨h1,h2⟩:=List.pairwise_cons.1 hp
   obtain⟨A,B,rfl⟩:=List.append_of_mem (hs x (by simp))
   have:=L8 r (A++B) h2 fun y hy=> by
    have hy2:=hs y (by simp [hy])
    have hne:=h1 y hy
    rcases List.mem_append.1 hy2 with h | h
    ·exact List.mem_append_left _ h
    ·rcases List.mem_cons.1 h with rfl | h
     ·exact absurd rfl hne
     ·exact List.mem_append_right _ h
   simp only [List.length_append,List.length_cons] at this ⊢
   omega
theorem Ds.small (h:Ds w P k b f) (K:Maps.Keyed P k) (ht:P.underlying t=some (.map k e)) {z:Value} (hz:(zeroValue e).run P w= .ok z w) {L:List Value} (hL:∀ x,f x≠none→x∈L):
 ∃ D,w.ownsMap P k Aaw b L.length D∧∀ key kl,keyOf P k key=some kl→(f key=none∧Maps.has D kl=false)∨∃ v,f key=some v∧Maps.has D kl=true∧∀ z,D.atKey kl z= .held v:=by
 obtain⟨n,D,⟨es,clock,hb,F,hn,hD⟩,hf⟩:=h
 refine⟨D,⟨es,clock,hb,F,?_,hD⟩,hf⟩
 have hap:es.toList.Pairwise (fun x y=> x.key≠y.key):=((MapKept.stamped_iff es clock).1 F.stamped).2.2
 have h1:=L8 (es.toList.map MapEntry.key) L (List.pairwise_map.2 hap) fun x hx=> by
  obtain⟨e0,he0,rfl⟩:=List.mem_map.1 hx
  obtain⟨y,hy⟩:=F.reads e0 he0
  have hk:=WideElems.rd_key hy
  refine hL _ fun hn0=> ?_
  rcases Maps.fit_look false K ht hz hb F hk with ⟨_,hno,_⟩ | ⟨e1,y1,h1,h2,_,_,hat,_⟩
  ·exact hno e0 he0 rfl
  ·have:=Maps.has_true_of_atKey hat
   rw [←hD] at this
   rcases hf _ _ hk with ⟨_,h4⟩ | ⟨v,h4,_⟩
   ·rw [h4] at this;cases this
   ·rw [h4] at hn0;cases hn0
 simpa using h1
theorem Ds.store (h:Ds w P k b f) (K:Maps.Keyed P k) (ht:P.underlying t=some (.map k e)) {z:Value} (hz:(zeroValue e).run P w= .ok z w) {L:List Value} (hL:∀ x,f x≠none→x∈L) (hl:L.length≤1000) {key val:Value} {kl:Lit} (hkey:keyOf P k key=some kl):
 ∃ w',(Instr.mapUpdate t (.map (some b)) key val).run P w= .ok () w'∧Ds w' P k b (M8 f key (some val))∧Ab (fun q=> q=b) w w':=by
 obtain⟨D,ho,hf⟩:=h.small K ht hz hL
 have hD:=ho.isMap
 obtain⟨w',hrun,ho',htn⟩:=ho.store K ht (by unfold maxLen;omega) hkey (val:=val) (d:= .held val) (ps:= []) rfl
 refine⟨w',hrun,⟨_,_,ho',fun x xl hx=> ?_⟩,Sm htn⟩
 by_cases hxe:x=key
 ·subst hxe
  rw [hkey] at hx
  obtain rfl:=Option.some.inj hx
  exact .inr ⟨val,Hu _ _ _,Maps.has_put_same hD (K.key hkey) _,fun z=> Maps.atKey_put_same hD (K.key hkey) _ z⟩
 ·have hne:xl≠kl:=fun e=> hxe (K.inj (e ▸ hx) hkey)
  rw [Fx hxe,Maps.has_put_other hne]
  simp only [Maps.atKey_put_other hne]
  exact hf x xl hx
end
theorem Hc {P:Program} {w:World} {ops:Array Oper} {rest:List Oper} {o:Oper} {a:Act} {Q:Exit→Act→World→Prop} (hg:o.guard=none) (m x v:Operand) (t:TypeId) (hop:o.op=Op.mapUpdate t m x v) (bb:Nat) (key val:Value)
 (hm:a.eval m= .map (some bb)) (hx:a.eval x=key) (hv:a.eval v=val) {w':World} (hrun:(Instr.mapUpdate t (.map (some bb)) key val).run P w= .ok () w')
 (hK:wpList P ops Q rest (a.put o.dst undef) w'):wpList P ops Q (o::rest) a w:=by
 refine wpList_plain hg fun K' hK'=> ?_
 unfold Oper.wp
 simp [execOp,hop,hm,hx,hv,hrun,Result.andThen]
 exact hK' _ _ hK
theorem V8 {P:Program} {w:World} {ops:Array Oper} {rest:List Oper} {o:Oper} {a:Act} {Q:Exit→Act→World→Prop} (hg:o.guard=none) (m x:Operand) (t k:TypeId) (hop:o.op=Op.call {callee:=Callee.builtin Builtin.delete,args:= #[m,x],argTypes:= #[t,k]}) (bb:Nat) (key:Value)
 (hm:a.eval m= .map (some bb)) (hx:a.eval x=key) {w':World} (hrun:(Builtin.delete_ #[t,k] o.type #[.map (some bb),key]).run P w= .ok (.tuple #[]) w')
 (hK:wpList P ops Q rest (a.put o.dst (.tuple #[])) w'):wpList P ops Q (o::rest) a w:=by
 refine wpList_plain hg fun K' hK'=> ?_
 unfold Oper.wp
 simp [execOp,hop,resolve,invoke,builtin,hm,hx,hrun,Result.andThen]
 exact hK' _ _ hK
end Go.Proofs.YtbibeionenjmfaaGreatDoor
namespace Go.Proofs.YtbibeionenjmfaaGreatDoor
open Go.RowKit
abbrev Ev:=Nat×Bool×Nat
structure Gb where
 on:Bool
 t:Ev
 at_:Nat
def Em:Gb:=⟨false,(0,false,0),0⟩
structure As where
 st:Int
 wh:Int
 saved:Int
 many:Nat
structure Ba where
 queue:Nat
 rs:List Aw
 fold:Int
 slices:Nat
 early:Bool
 lines:List ByteArray
 size:Nat
 parts:List As
 Bw:List As
 out:List ByteArray
structure Ad where
 Aj:List (Int×Int)
 Ag:List (List Gb)
 Af:List Ba
 log:List UInt8
instance:Inhabited As:=⟨⟨0,0, -1,0⟩⟩
def N6 (s:List UInt8):Int:=
 if s= [] then 0 else if s.getLast?≠some 10 then 4 else if 60 < (C5 s).length then 2 else if (C5 s).any (fun l=> decide (120 < l.length))=true then 1 else 0
def Mw (s:List UInt8):List (List UInt8):=if s= []∨N6 s≠0 then [] else C5 s
def Nu (s:List UInt8):Option (List Aw×Int×Nat×Bool):=
 if s.length≤800∧(Dl s).2.2.2.2=false∧Dv (Dl s).1 (Dl s).2.1 (Dl s).2.2.1=0∧Ke (Dl s).1 (Dl s).2.1 (Dl s).2.2.1 (Dl s).2.2.2.1=s
 then some ((Dl s).1,(Dl s).2.1,(Dl s).2.2.1.toNat,(Dl s).2.2.2.1) else none
def Xa (s:List UInt8):Int:=if 800 < s.length then 2 else 4
def Dq (q:Nat) (rv:List Aw) (fold:Int) (slices:Nat) (early:Bool) (lines:List ByteArray) (size:Nat):Ba where
 queue:=q
 rs:=rv
 fold:=fold
 slices:=slices
 early:=early
 lines:=lines
 size:=size
 parts:=(List.range ((lines.length+size - 1) / size)).map fun i=> ⟨0,0, -1,min size (lines.length - i * size)⟩
 Bw:=(List.range slices).map fun k=> ⟨0,0, -1,(V0 rv fold slices lines k).length⟩
 out:=Kf rv fold slices lines
def Fv (F:Ad) (q:Int) (prog inp:List UInt8) (size:Int):Int×Ad:=
 if q < 0∨F.Aj.length≤q then(5,F) else if F.Af.length=6 then(2,F) else match Nu prog with
 | none=> (Xa prog,F)
 | some (rv,fold,slices,early)=>
   if N6 inp≠0 then(N6 inp,F) else if size < 1∨60 < size then(1,F)
   else(0,{F with Af:=F.Af++ [Dq q.toNat rv fold slices early ((Mw inp).map tx) size.toNat]})
def Ua:List UInt8:= [106,111,98]
def Uw:List UInt8:= [111,117,116]
def Dm (F:Ad) (q:Int) (prog inp:List UInt8) (size:Int):(Int×Int)×Ad:=
 let r:=Fv F q prog inp size
 if r.1≠0 then((0,r.1),F) else(((F.Af.length:Int),0),{r.2 with log:=F.log++Kc (tx Ua, [q,size], [tx prog,tx inp])})
def Ig (l:List As):Bool:=l.all fun p=> p.st ==2
def Jy (o:Ba):Option (Bool×Nat):=
 if Ig o.Bw=true then none else match o.parts.findIdx? (fun p=> p.st ==0) with
 | some i=> some (false,i)
 | none=> if Ig o.parts=true then(o.Bw.findIdx? (fun p=> p.st ==0)).map fun i=> (true,i) else none
def C7 (q:Nat):Nat→List Ba→Option Ev
 | _, []=> none
 | n,o::l=> if o.queue=q then(match Jy o with
  | some (f,i)=> some (n,f,i)
  | none=> C7 q (n+1) l) else C7 q (n+1) l
def Ajp (l:List Int) (k:Nat):List Int:=l.set k (l.getD k 0+1)
def Lu (F:Ad) (j:Nat):Nat:=((F.Af[j]?).map Ba.queue).getD 0
def Iq (F:Ad):List Int:=F.Ag.flatten.foldl (fun l a=> if a.on=true then Ajp l (Lu F a.t.1) else l) (List.replicate F.Aj.length 0)
def Cv (F:Ad):List Bool:=(List.range F.Aj.length).map fun q=> (C7 q 0 F.Af).isSome
def H8 (F:Ad):Option Ev:=
 let q:=Bv F.Aj (Iq F) (Cv F) F.Aj.length
 if q < 0 then none else C7 q.toNat 0 F.Af
def Dy (F:Ad) (w:Int):Nat×Int:=
 if w < 0 then(0,5) else match F.Ag[w.toNat]? with
 | none=> (0,5)
 | some row=> match row.findIdx? (fun a=> !a.on) with
   | some k=> (k,0)
   | none=> (0,8)
def Eb (o:Ba) (fold:Bool):List As:=if fold=true then o.Bw else o.parts
def ofM (F:Ad) (t:Ev):Option As:=(F.Af[t.1]?).bind fun o=> (Eb o t.2.1)[t.2.2]?
def A5 (o:Ba) (fold:Bool) (i:Nat) (f:As→As):Ba:=if fold=true then {o with Bw:=o.Bw.modify i f} else {o with parts:=o.parts.modify i f}
def setOf (F:Ad) (t:Ev) (f:As→As):Ad:={F with Af:=F.Af.modify t.1 fun o=> A5 o t.2.1 t.2.2 f}
def Au (F:Ad) (w k:Nat) (a:Gb):Ad:={F with Ag:=F.Ag.modify w fun row=> row.set k a}
def Ee (F:Ad) (w k:Nat) (t:Ev):Ad:=
 Au (setOf F t fun p=> {p with st:=1}) w k ⟨true,t,(((ofM F t).map fun p=> p.saved.toNat).getD 0)⟩
def Ha:Ev:=(0,false,0)
def A4 (F:Ad) (w:Int):(Ev×Int)×Ad:=
 let r:=Dy F w
 if r.2≠0 then((Ha,r.2),F) else match H8 F with
 | none=> ((Ha,5),F)
 | some t=> ((t,0),Ee F w.toNat r.1 t)
def Br (F:Ad) (w k:Nat) (many:Int):Ad:=match (F.Ag[w]?).bind (·[k]?) with
 | none=> F
 | some a=> if a.on=false then F else match ofM F a.t with
   | none=> F
   | some p=>
     let n:=if 0 < many then a.at_+min many.toNat (p.many - a.at_) else a.at_
     if n < p.many then Au F w k {a with at_:=n}
     else
      let F1:=Au F w k Em
      if p.st=2 then F1 else
      let F2:=setOf F1 a.t fun p=> {p with st:=2,wh:=(w:Int),saved:= -1}
      if a.t.2.1=true then {F2 with log:=F2.log++Kc (tx Uw, [(a.t.1:Int),(a.t.2.2:Int)], [(((F.Af[a.t.1]?).bind fun o=> o.out[a.t.2.2]?).getD (tx []))])} else F2
def A1 (F:Ad) (w:Nat) (many:Int):Nat→Ad
 | 0=> F
 | k+1=> Br (A1 F w many k) w k many
def Cu (F:Ad) (w many:Int):Int×Ad:=
 if w < 0 then(5,F) else match F.Ag[w.toNat]? with
 | none=> (5,F)
 | some row=> (0,A1 F w.toNat many row.length)
def inM (F:Ad) (w k:Int):Ev×Int:=
 if w < 0∨k < 0 then(Ha,5) else match (F.Ag[w.toNat]?).bind (·[k.toNat]?) with
 | none=> (Ha,5)
 | some a=> if a.on=true then(a.t,0) else(Ha,7)
def Hj (l:List As):Nat:=(l.filter fun p=> p.st ==2).length
def Po (F:Ad) (n:Int):List ByteArray×Int:=
 if n < 0 then([],5) else match F.Af[n.toNat]? with
 | none=> ([],5)
 | some o=> if Hj o.Bw=o.Bw.length then(o.out,0) else([],7)
def F9 (Aj:List (Int×Int)) (workers Ag:Nat):Ad:=⟨Aj,List.replicate workers (List.replicate Ag Em), [], []⟩
end Go.Proofs.YtbibeionenjmfaaGreatDoor
namespace Go.Proofs.YtbibeionenjmfaaGreatDoor
open Go.RowKit
theorem get_modify {α:Type} (l:List α) (f:α→α) (i j:Nat):(l.modify i f)[j]?=if i=j then(l[j]?).map f else l[j]?:=by
 rw [List.getElem?_modify]
 split <;> cases l[j]? <;> simp_all
theorem Iz (F:Ad) (t u:Ev) (f:As→As):ofM (setOf F t f) u=if u=t then(ofM F u).map f else ofM F u:=by
 obtain⟨n,fo,i⟩:=t
 obtain⟨m,go,j⟩:=u
 unfold ofM setOf
 simp only [get_modify]
 by_cases hn:n=m
 ·subst hn
  simp only [if_true]
  cases ho:F.Af[n]? with
  | none=> simp
  | some o=>
    simp only [Option.map_some,Option.bind_some]
    unfold A5 Eb
    by_cases hi:i=j
    ·subst hi
     cases fo <;> cases go <;> simp [get_modify]
    ·have hj:¬ j=i:=fun e=> hi e.symm
     cases fo <;> cases go <;> simp [get_modify,hi,hj]
 ·have hm:¬ m=n:=fun e=> hn e.symm
  simp [hn,hm]
theorem Rz (F:Ad) (w k:Nat) (a:Gb) (t:Ev):ofM (Au F w k a) t=ofM F t:=rfl
def An (F:Ad) (w k:Nat):Option Gb:=(F.Ag[w]?).bind (·[k]?)
theorem Ce (F:Ad) (w k:Nat) (a:Gb) (w' k':Nat):An (Au F w k a) w' k'=if w'=w∧k'=k then(An F w k).map fun _=> a else An F w' k':=by
 unfold An Au
 simp only [get_modify]
 by_cases hw:w=w'
 ·subst hw
  cases hr:F.Ag[w]? with
  | none=> simp
  | some row=>
    simp only [if_true,Option.map_some,Option.bind_some,List.getElem?_set,true_and]
    by_cases hk:k=k'
    ·subst hk
     simp only [if_true]
     by_cases hl:k < row.length
     ·rw [if_pos hl,List.getElem?_eq_getElem hl];rfl
     ·rw [if_neg hl,List.getElem?_eq_none (by omega)];rfl
    ·rw [if_neg hk,if_neg (fun e=> hk e.symm)]
 ·have hw2:¬ w'=w:=fun e=> hw e.symm
  simp [hw,hw2]
def G8 (o:Ba) (fold:Bool) (i:Nat):Nat:=if fold=true then(V0 o.rs o.fold o.slices o.lines i).length else min o.size (o.lines.length - i * o.size)
def Uf (o:Ba) (fold:Bool):Nat:=if fold=true then o.slices else(o.lines.length+o.size - 1) / o.size
structure De (nq:Nat) (o:Ba):Prop where
 queue:o.queue < nq
 ok:Dv o.rs o.fold o.slices=0
 lines:o.lines.length≤60
 short:∀ l∈o.lines,l.size≤120
 size:1≤o.size∧o.size≤60
 len:∀ fold,(Eb o fold).length=Uf o fold
 outs:o.out.length=o.slices
structure Lh (o:Ba) (fold:Bool) (i:Nat) (p:As):Prop where
 many:p.many=G8 o fold i
 st:p.st=0∨p.st=1∨p.st=2
 saved: -1≤p.saved∧p.saved≤p.many
structure InvC (F:Ad):Prop where
 qs:Er F.Aj=0
 ws:1≤F.Ag.length∧F.Ag.length≤4
 rows:∃ n,(1≤n∧n≤3)∧∀ row∈F.Ag,row.length=n
 jl:F.Af.length≤6
 Hl:∀ (n:Nat) o,F.Af[n]?=some o→De F.Aj.length o
 part:∀ (n:Nat) o fold i p,F.Af[n]?=some o→(Eb o fold)[i]?=some p→Lh o fold i p
structure InvM (F:Ad):Prop extends InvC F where
 att:∀ w k a,An F w k=some a→a.on=true→∃ p,ofM F a.t=some p∧a.at_≤p.many
 run:∀ t p,ofM F t=some p→p.st=1→∃ w k a,An F w k=some a∧a.on=true∧a.t=t
 off:∀ w k a,An F w k=some a→a.on=false→a=Em
theorem Ia {F:Ad} {t:Ev} {p:As} (h:ofM F t=some p):∃ o,F.Af[t.1]?=some o∧(Eb o t.2.1)[t.2.2]?=some p:=by
 unfold ofM at h
 cases ho:F.Af[t.1]? with
 | none=> rw [ho] at h;cases h
 | some o=> rw [ho] at h;exact⟨o,rfl,h⟩
theorem Akv {F:Ad} {a:Gb}:a∈F.Ag.flatten↔∃ w k,An F w k=some a:=by
 constructor
 ·intro h
  obtain⟨row,hr,ha⟩:=List.mem_flatten.1 h
  obtain⟨w,hw⟩:=List.mem_iff_getElem?.1 hr
  obtain⟨k,hk⟩:=List.mem_iff_getElem?.1 ha
  exact⟨w,k,by unfold An;rw [hw];exact hk⟩
 ·rintro⟨w,k,h⟩
  unfold An at h
  cases hw:F.Ag[w]? with
  | none=> rw [hw] at h;cases h
  | some row=>
    rw [hw] at h
    exact List.mem_flatten.2 ⟨row,List.mem_of_getElem? hw,List.mem_of_getElem? h⟩
theorem Ol (o:Ba) (fo go:Bool) (i:Nat) (f:As→As):Eb (A5 o fo i f) go=if fo=go then(Eb o go).modify i f else Eb o go:=by
 unfold A5 Eb
 cases fo <;> cases go <;> simp
theorem My (o:Ba) (fo:Bool) (i:Nat) (f:As→As):(A5 o fo i f).queue=o.queue∧(A5 o fo i f).rs=o.rs∧(A5 o fo i f).fold=o.fold∧(A5 o fo i f).slices=o.slices∧(A5 o fo i f).early=o.early∧(A5 o fo i f).lines=o.lines∧(A5 o fo i f).size=o.size∧(A5 o fo i f).out=o.out:=by
 unfold A5
 cases fo <;> simp
theorem De.set {nq:Nat} {o:Ba} (h:De nq o) (fo:Bool) (i:Nat) (f:As→As):De nq (A5 o fo i f):=by
 obtain⟨e1,e2,e3,e4,e5,e6,e7,e8⟩:=My o fo i f
 refine⟨by rw [e1];exact h.queue,by rw [e2,e3,e4];exact h.ok,by rw [e6];exact h.lines,by rw [e6];exact h.short,by rw [e7];exact h.size,fun go=> ?_,by rw [e8,e4];exact h.outs⟩
 have:Uf (A5 o fo i f) go=Uf o go:=by unfold Uf;rw [e4,e6,e7]
 rw [this,←h.len go,Ol]
 split <;> simp
theorem Lh.set {o:Ba} {go:Bool} {j:Nat} {p:As} (fo:Bool) (i:Nat) (f:As→As) (h:Lh o go j p):Lh (A5 o fo i f) go j p:=by
 obtain⟨e1,e2,e3,e4,e5,e6,e7,e8⟩:=My o fo i f
 have:G8 (A5 o fo i f) go j=G8 o go j:=by unfold G8;rw [e2,e3,e4,e6,e7]
 exact⟨by rw [this];exact h.many,h.st,h.saved⟩
theorem InvC.setOf {F:Ad} (h:InvC F) (t:Ev) (f:As→As) (hf:∀ o p,F.Af[t.1]?=some o→(Eb o t.2.1)[t.2.2]?=some p→Lh o t.2.1 t.2.2 p→Lh o t.2.1 t.2.2 (f p)):InvC (setOf F t f):=by
 have hget:∀ (n:Nat) o',(Go.Proofs.YtbibeionenjmfaaGreatDoor.setOf F t f).Af[n]?=some o'→∃ o,F.Af[n]?=some o∧o'=if t.1=n then A5 o t.2.1 t.2.2 f else o:=by
  intro n o' ho
  have e:(Go.Proofs.YtbibeionenjmfaaGreatDoor.setOf F t f).Af[n]?=if t.1=n then(F.Af[n]?).map (fun o=> A5 o t.2.1 t.2.2 f) else F.Af[n]?:=get_modify _ _ _ _
  rw [e] at ho
  by_cases hn:t.1=n
  ·rw [if_pos hn] at ho
   obtain⟨o,h1,h2⟩:=Option.map_eq_some_iff.1 ho
   exact⟨o,h1,by rw [if_pos hn];exact h2.symm⟩
  ·rw [if_neg hn] at ho
   exact⟨o',ho,by rw [if_neg hn]⟩
 refine⟨h.qs,h.ws,h.rows,by show(F.Af.modify _ _).length≤6;rw [List.length_modify];exact h.jl,fun n o' ho=> ?_,fun n o' go j p ho hp=> ?_⟩
 ·obtain⟨o,h1,rfl⟩:=hget n o' ho
  split
  ·exact(h.Hl n o h1).set _ _ _
  ·exact h.Hl n o h1
 ·obtain⟨o,h1,rfl⟩:=hget n o' ho
  by_cases hn:t.1=n
  ·rw [if_pos hn] at hp ⊢
   subst hn
   rw [Ol] at hp
   by_cases hg:t.2.1=go
   ·rw [if_pos hg,get_modify] at hp
    subst hg
    by_cases hi:t.2.2=j
    ·rw [if_pos hi] at hp
     subst hi
     obtain⟨p0,h2,rfl⟩:=Option.map_eq_some_iff.1 hp
     exact(hf o p0 h1 h2 (h.part _ o _ _ p0 h1 h2)).set _ _ _
    ·rw [if_neg hi] at hp
     exact(h.part _ o _ _ p h1 hp).set _ _ _
   ·rw [if_neg hg] at hp
    exact(h.part _ o _ _ p h1 hp).set _ _ _
  ·rw [if_neg hn] at hp ⊢
   exact h.part n o go j p h1 hp
theorem InvC.Au {F:Ad} (h:InvC F) (w k:Nat) (a:Gb):InvC (Au F w k a):=by
 refine⟨h.qs,by show 1≤(F.Ag.modify _ _).length∧(F.Ag.modify _ _).length≤4;rw [List.length_modify];exact h.ws,?_,h.jl,h.Hl,h.part⟩
 obtain⟨n,hn,hr⟩:=h.rows
 refine⟨n,hn,fun row hrow=> ?_⟩
 obtain⟨i,hi⟩:=List.mem_iff_getElem?.1 hrow
 have e:(Go.Proofs.YtbibeionenjmfaaGreatDoor.Au F w k a).Ag[i]?=if w=i then(F.Ag[i]?).map (fun row=> row.set k a) else F.Ag[i]?:=get_modify _ _ _ _
 rw [e] at hi
 split at hi
 ·obtain⟨r,h1,rfl⟩:=Option.map_eq_some_iff.1 hi
  rw [List.length_set]
  exact hr r (List.mem_of_getElem? h1)
 ·exact hr row (List.mem_of_getElem? hi)
theorem InvC.ok {F:Ad} (h:InvC F) {t:Ev} {p:As} (hp:ofM F t=some p):∃ o,F.Af[t.1]?=some o∧Lh o t.2.1 t.2.2 p:=by
 obtain⟨o,h1,h2⟩:=Ia hp
 exact⟨o,h1,h.part _ o _ _ p h1 h2⟩
theorem InvM.begin {F:Ad} (h:InvM F) {w k:Nat} {b:Gb} (hs:An F w k=some b) (hb:b.on=false) {t:Ev} {p:As} (hp:ofM F t=some p):InvM (Ee F w k t):=by
 have hat:(((ofM F t).map fun p=> p.saved.toNat).getD 0)=p.saved.toNat:=by rw [hp];rfl
 have hsl:∀ w' k',An (Ee F w k t) w' k'=if w'=w∧k'=k then some ⟨true,t,p.saved.toNat⟩ else An F w' k':=fun w' k'=> by
  unfold Ee
  rw [Ce,hat]
  split
  ·have:An (Go.Proofs.YtbibeionenjmfaaGreatDoor.setOf F t fun p=> {p with st:=1}) w k=An F w k:=rfl
   rw [this,hs];rfl
  ·rfl
 have hof:∀ u,ofM (Ee F w k t) u=if u=t then(ofM F u).map (fun p=> {p with st:=1}) else ofM F u:=fun u=> by
  unfold Ee
  rw [Rz,Iz]
 obtain⟨o,ho,hok⟩:=h.toInvC.ok hp
 refine⟨(h.toInvC.setOf t (fun p=> {p with st:=1}) fun o p _ _ hq=> ⟨hq.many, .inr (.inl rfl),hq.saved⟩).Au w k _,fun w' k' a ha hon=> ?_,fun u q hq h1=> ?_,fun w' k' a ha hoff=> ?_⟩
 ·rw [hsl] at ha
  split at ha
  ·cases ha
   refine⟨{p with st:=1},by rw [hof,if_pos rfl,hp];rfl,?_⟩
   have:=hok.saved
   show p.saved.toNat≤p.many
   omega
  ·obtain⟨q,h1,h2⟩:=h.att w' k' a ha hon
   rw [hof]
   split
   ·rw [h1];exact⟨_,rfl,h2⟩
   ·exact⟨q,h1,h2⟩
 ·rw [hof] at hq
  split at hq
  ·rename_i e
   exact⟨w,k,_,by rw [hsl,if_pos ⟨rfl,rfl⟩],rfl,e.symm⟩
  ·obtain⟨w',k',a,h2,h3,h4⟩:=h.run u q hq h1
   refine⟨w',k',a,?_,h3,h4⟩
   rw [hsl,if_neg]
   ·exact h2
   ·rintro⟨rfl,rfl⟩
    rw [hs] at h2
    cases h2
    rw [hb] at h3
    cases h3
 ·rw [hsl] at ha
  split at ha
  ·cases ha;cases hoff
  ·exact h.off w' k' a ha hoff
theorem InvM.Br {F:Ad} (h:InvM F) (w k:Nat) (many:Int):InvM (Br F w k many):=by
 unfold Go.Proofs.YtbibeionenjmfaaGreatDoor.Br
 cases hs:(F.Ag[w]?).bind (·[k]?) with
 | none=> exact h
 | some a=>
   dsimp only
   split
   ·exact h
   rename_i hon0
   have hon:a.on=true:=by simpa using hon0
   obtain⟨p,hp,hle⟩:=h.att w k a hs hon
   rw [hp]
   dsimp only
   obtain⟨n,hn⟩:∃ n,(if 0 < many then a.at_+min many.toNat (p.many - a.at_) else a.at_)=n:=⟨_,rfl⟩
   have hnl:n≤p.many:=by rw [←hn];split <;> omega
   rw [hn]
   have hsl:∀ x w' k',An (Au F w k x) w' k'=if w'=w∧k'=k then some x else An F w' k':=fun x w' k'=> by
    rw [Ce,show An F w k=some a from hs];rfl
   split
   ·refine⟨h.toInvC.Au _ _ _,fun w' k' b hb hbo=> ?_,fun t q hq h1=> ?_,fun w' k' b hb hbo=> ?_⟩
    ·rw [hsl] at hb
     split at hb
     ·cases hb;exact⟨p,hp,hnl⟩
     ·exact h.att w' k' b hb hbo
    ·obtain⟨w',k',b,h2,h3,h4⟩:=h.run t q hq h1
     by_cases e:w'=w∧k'=k
     ·obtain⟨rfl,rfl⟩:=e
      have h5:An F w' k'=some a:=hs
      rw [h5] at h2
      cases h2
      exact⟨w',k',{a with at_:=n},by rw [hsl,if_pos ⟨rfl,rfl⟩],hon,h4⟩
     ·exact⟨w',k',b,by rw [hsl,if_neg e];exact h2,h3,h4⟩
    ·rw [hsl] at hb
     split at hb
     ·cases hb;rw [show({a with at_:=n}:Gb).on=a.on from rfl,hon] at hbo;cases hbo
     ·exact h.off w' k' b hb hbo
   have hatt:∀ w' k' b,An (Au F w k Em) w' k'=some b→b.on=true→∃ p,ofM F b.t=some p∧b.at_≤p.many:=fun w' k' b hb hbo=> by
    rw [hsl] at hb
    split at hb
    ·cases hb;cases hbo
    ·exact h.att w' k' b hb hbo
   have hoff:∀ w' k' b,An (Au F w k Em) w' k'=some b→b.on=false→b=Em:=fun w' k' b hb hbo=> by
    rw [hsl] at hb
    split at hb
    ·cases hb;rfl
    ·exact h.off w' k' b hb hbo
   have hrun:∀ t q,ofM F t=some q→q.st=1→t≠a.t→∃ w' k' b,An (Au F w k Em) w' k'=some b∧b.on=true∧b.t=t:=fun t q hq h1 hne=> by
    obtain⟨w',k',b,h2,h3,h4⟩:=h.run t q hq h1
    refine⟨w',k',b,?_,h3,h4⟩
    rw [hsl,if_neg]
    ·exact h2
    ·rintro⟨rfl,rfl⟩
     have h5:An F w' k'=some a:=hs
     rw [h5] at h2
     cases h2
     exact hne h4.symm
   split
   ·rename_i h2s
    refine⟨h.toInvC.Au _ _ _,hatt,fun t q hq h1=> ?_,hoff⟩
    by_cases e:t=a.t
    ·subst e
     have:ofM F a.t=some q:=hq
     rw [hp] at this
     cases this
     rw [h2s] at h1;cases h1
    ·exact hrun t q hq h1 e
   have hG:InvM (Go.Proofs.YtbibeionenjmfaaGreatDoor.setOf (Au F w k Em) a.t fun p=> {p with st:=2,wh:=(w:Int),saved:= -1}):=by
    have hof:∀ u,ofM (Go.Proofs.YtbibeionenjmfaaGreatDoor.setOf (Au F w k Em) a.t fun p=> {p with st:=2,wh:=(w:Int),saved:= -1}) u=if u=a.t then(ofM F u).map (fun p=> {p with st:=2,wh:=(w:Int),saved:= -1}) else ofM F u:=fun u=> Iz _ _ _ _
    refine⟨(h.toInvC.Au w k Em).setOf a.t (fun p=> {p with st:=2,wh:=(w:Int),saved:= -1}) fun o p _ _ hq=> ⟨hq.many, .inr (.inr rfl),Int.le_refl _,by show(-1:Int)≤(p.many:Int);omega⟩,fun w' k' b hb hbo=> ?_,fun t q hq h1=> ?_,hoff⟩
    ·obtain⟨q,h1,h2⟩:=hatt w' k' b hb hbo
     rw [hof]
     split
     ·rw [h1];exact⟨_,rfl,h2⟩
     ·exact⟨q,h1,h2⟩
    ·rw [hof] at hq
     split at hq
     ·obtain⟨q0,_,rfl⟩:=Option.map_eq_some_iff.1 hq
      cases h1
     ·rename_i e
      exact hrun t q hq h1 e
   split
   ·exact⟨⟨hG.qs,hG.ws,hG.rows,hG.jl,hG.Hl,hG.part⟩,hG.att,hG.run,hG.off⟩
   ·exact hG
theorem InvM.A1 {F:Ad} (h:InvM F) (w:Nat) (many:Int):∀ k,InvM (A1 F w many k)
 | 0=> h
 | k+1=> (InvM.A1 h w many k).Br w k many
theorem InvM.work {F:Ad} (h:InvM F) (w many:Int):InvM (Cu F w many).2:=by
 unfold Cu
 split
 ·exact h
 ·split
  ·exact h
  ·exact h.A1 _ _ _
theorem Ak7 {s:List UInt8} (h:N6 s=0):(Mw s).length≤60∧∀ l∈Mw s,l.length≤120:=by
 unfold Mw
 by_cases h0:s= []
 ·rw [if_pos (.inl h0)];exact⟨by simp,fun l hl=> by cases hl⟩
 ·rw [if_neg (fun h1=> h1.elim h0 fun h2=> h2 h)]
  unfold N6 at h
  rw [if_neg h0] at h
  split at h
  ·cases h
  split at h
  ·cases h
  rename_i h60
  split at h
  ·cases h
  rename_i h12
  refine⟨by omega,fun l hl=> ?_⟩
  refine Classical.byContradiction fun hc=> h12 (List.any_eq_true.2 ⟨l,hl,by rw [decide_eq_true_eq];omega⟩)
theorem Afk {s:List UInt8} {rv:List Aw} {fold:Int} {slices:Nat} {early:Bool} (h:Nu s=some (rv,fold,slices,early)):Dv rv fold slices=0∧s=Ke rv fold slices early∧s.length≤800:=by
 unfold Nu at h
 split at h
 ·rename_i hc
  obtain⟨h1,h2,h3,h4⟩:=hc
  simp only [Option.some.injEq,Prod.mk.injEq] at h
  obtain⟨e1,e2,e3,e4⟩:=h
  have hs:=(Lo h3).2.2.1
  have e5:((slices:Nat):Int)=(Dl s).2.2.1:=by rw [←e3];omega
  rw [e5,←e1,←e2,←e4]
  exact⟨h3,h4.symm,h1⟩
 ·cases h
theorem Ahr {s:List UInt8} {rv:List Aw} {fold slices:Int} {early:Bool} (h1:Dv rv fold slices=0) (h2:s=Ke rv fold slices early) (h3:s.length≤800):Nu s=some (rv,fold,slices.toNat,early):=by
 have h4:=Lv (early:=early) h1
 rw [←h2] at h4
 unfold Nu
 rw [h4,if_pos ⟨h3,rfl,h1,h2.symm⟩]
theorem Abg {q:Nat} {rv:List Aw} {fold:Int} {slices:Nat} {early:Bool} {lines:List ByteArray} {size:Nat} {go:Bool} {i:Nat} {p:As} (h:(Eb (Dq q rv fold slices early lines size) go)[i]?=some p):Lh (Dq q rv fold slices early lines size) go i p∧p.st=0:=by
 unfold Eb Dq at h
 cases go
 ·simp only [Bool.false_eq_true,if_false,List.getElem?_map] at h
  obtain⟨k,hk,rfl⟩:=Option.map_eq_some_iff.1 h
  have hi:=(List.getElem?_eq_some_iff.1 hk).2
  rw [List.getElem_range] at hi
  subst hi
  exact⟨⟨rfl, .inl rfl,by show(-1:Int)≤ -1∧(-1:Int)≤((min size (lines.length - i * size):Nat):Int);omega⟩,rfl⟩
 ·simp only [if_true,List.getElem?_map] at h
  obtain⟨k,hk,rfl⟩:=Option.map_eq_some_iff.1 h
  have hi:=(List.getElem?_eq_some_iff.1 hk).2
  rw [List.getElem_range] at hi
  subst hi
  exact⟨⟨rfl, .inl rfl,by show(-1:Int)≤ -1∧(-1:Int)≤(((V0 rv fold slices lines i).length:Nat):Int);omega⟩,rfl⟩
theorem Ad4 {nq q:Nat} {rv:List Aw} {fold:Int} {slices:Nat} {early:Bool} {lines:List ByteArray} {size:Nat} (hq:q < nq) (hj:Dv rv fold slices=0) (hl:lines.length≤60) (hs:∀ l∈lines,l.size≤120) (hz:1≤size∧size≤60):De nq (Dq q rv fold slices early lines size):=by
 refine⟨hq,hj,hl,hs,hz,fun go=> ?_,?_⟩
 ·unfold Eb Dq Uf
  cases go <;> simp
 ·show(Kf rv fold slices lines).length=slices
  unfold Kf;simp
theorem InvM.add {F:Ad} (h:InvM F) (o:Ba) (hl:F.Af.length < 6) (ho:De F.Aj.length o) (hp:∀ go i p,(Eb o go)[i]?=some p→Lh o go i p∧p.st≠1):InvM {F with Af:=F.Af++ [o]}:=by
 have hget:∀ (n:Nat) o',(F.Af++ [o])[n]?=some o'→F.Af[n]?=some o'∨(n=F.Af.length∧o'=o):=fun n o' hn=> by
  by_cases hlt:n < F.Af.length
  ·rw [List.getElem?_append_left hlt] at hn;exact .inl hn
  ·have hb:=(List.getElem?_eq_some_iff.1 hn).1
   rw [List.length_append,List.length_singleton] at hb
   obtain rfl:n=F.Af.length:=by omega
   rw [List.getElem?_append_right (Nat.le_refl _),Nat.sub_self] at hn
   exact .inr ⟨rfl,(Option.some.inj hn).symm⟩
 have hold:∀ t p,ofM F t=some p→ofM {F with Af:=F.Af++ [o]} t=some p:=fun t p ht=> by
  obtain⟨o1,h1,h2⟩:=Ia ht
  unfold ofM
  show((F.Af++ [o])[t.1]?).bind _=_
  rw [List.getElem?_append_left (List.getElem?_eq_some_iff.1 h1).1,h1]
  exact h2
 refine⟨⟨h.qs,h.ws,h.rows,by show(F.Af++ [o]).length≤6;rw [List.length_append,List.length_singleton];omega,fun n o' hn=> ?_,fun n o' go i p hn hq=> ?_⟩,fun w k a ha hon=> ?_,fun t p ht h1=> ?_,h.off⟩
 ·rcases hget n o' hn with h1 | ⟨_,rfl⟩
  ·exact h.Hl n o' h1
  ·exact ho
 ·rcases hget n o' hn with h1 | ⟨_,rfl⟩
  ·exact h.part n o' go i p h1 hq
  ·exact(hp go i p hq).1
 ·obtain⟨p,h1,h2⟩:=h.att w k a ha hon
  exact⟨p,hold _ p h1,h2⟩
 ·obtain⟨o1,h2,h3⟩:=Ia ht
  rcases hget _ o1 h2 with h4 | ⟨_,rfl⟩
  ·exact h.run t p (by unfold ofM;rw [h4];exact h3) h1
  ·exact absurd h1 (hp _ _ p h3).2
theorem InvM.take {F:Ad} (h:InvM F) (q:Int) (prog inp:List UInt8) (size:Int):InvM (Fv F q prog inp size).2:=by
 unfold Fv
 split
 ·exact h
 rename_i hq
 split
 ·exact h
 rename_i h6
 split
 ·exact h
 rename_i rv fold slices early hj
 split
 ·exact h
 rename_i hr
 split
 ·exact h
 rename_i hz
 have hr:=Classical.not_not.1 hr
 obtain⟨h1,h2⟩:=Ak7 hr
 refine h.add _ (by have:=h.jl;omega) (Ad4 (by omega) (Afk hj).1 (by rw [List.length_map];exact h1) (fun l hl=> ?_) (by omega)) (fun go i p hp=> ?_)
 ·obtain⟨x,hx,rfl⟩:=List.mem_map.1 hl
  rw [Am];exact h2 x hx
 ·obtain⟨h3,h4⟩:=Abg hp
  exact⟨h3,by rw [h4];decide⟩
theorem InvM.log {F:Ad} (h:InvM F) (l:List UInt8):InvM {F with log:=l}:=⟨⟨h.qs,h.ws,h.rows,h.jl,h.Hl,h.part⟩,h.att,h.run,h.off⟩
theorem InvM.M4 {F:Ad} (h:InvM F) (q:Int) (prog inp:List UInt8) (size:Int):InvM (Dm F q prog inp size).2:=by
 unfold Dm
 dsimp only
 split
 ·exact h
 ·exact(h.take q prog inp size).log _
theorem U5 {F:Ad} {w:Int} (h:(Dy F w).2=0):0≤w∧∃ b,An F w.toNat (Dy F w).1=some b∧b.on=false:=by
 unfold Dy at h ⊢
 split at h
 ·cases h
 rename_i hw
 rw [if_neg hw]
 unfold An
 cases hr:F.Ag[w.toNat]? with
 | none=> rw [hr] at h;cases h
 | some row=>
   rw [hr] at h
   dsimp only at h ⊢
   cases hf:row.findIdx? (fun a=> !a.on) with
   | none=> rw [hf] at h;cases h
   | some k=>
     dsimp only
     obtain⟨h1,h2,_⟩:=List.findIdx?_eq_some_iff_getElem.1 hf
     refine⟨by omega,row[k],?_,by simpa using h2⟩
     rw [Option.bind_some,List.getElem?_eq_getElem h1]
theorem Ul {Aj:List (Int×Int)} {workers Ag:Nat} (hq:Er Aj=0) (hw:1≤workers∧workers≤4) (hs:1≤Ag∧Ag≤3):InvM (F9 Aj workers Ag):=by
 have hno:∀ w k a,An (F9 Aj workers Ag) w k=some a→a=Em:=fun w k a ha=> by
  unfold An F9 at ha
  dsimp only at ha
  cases hr:(List.replicate workers (List.replicate Ag Em))[w]? with
  | none=> rw [hr] at ha;cases ha
  | some row=>
    rw [hr] at ha
    have h1:=(List.mem_replicate.1 (List.mem_of_getElem? hr)).2
    subst h1
    exact(List.mem_replicate.1 (List.mem_of_getElem? ha)).2
 refine⟨⟨hq,by show 1≤(List.replicate workers (List.replicate Ag Em)).length∧(List.replicate workers (List.replicate Ag Em)).length≤4;rw [List.length_replicate];exact hw,⟨Ag,hs,fun row hr=> by rw [(List.mem_replicate.1 hr).2,List.length_replicate]⟩,by show([]:List Ba).length≤6;decide,fun n o ho=> (by cases ho),fun n o go i p ho=> (by cases ho)⟩,fun w k a ha hon=> ?_,fun t p hp=> ?_,fun w k a ha _=> hno w k a ha⟩
 ·rw [hno w k a ha] at hon;cases hon
 ·cases hp
end Go.Proofs.YtbibeionenjmfaaGreatDoor
namespace Go.Proofs.YtbibeionenjmfaaGreatDoor
open Go.RowKit
def We (l:List ByteArray) (x:ByteArray) (r:Int):Prop:=(∃ k:Nat,r=k∧l[k]?=some x∧∀ i,i < k→l[i]?≠some x)∨(r= -1∧∀ i:Nat,l[i]?≠some x)
def Sz (l:List ByteArray) (x:ByteArray) (w:World) (e:Ending) (w':World):Prop:=(∃ r,e= .returned (.int .i64 r)∧We l x r)∧Below w.heap.size w w'
set_option maxRecDepth 100000 in
theorem Acw (ao:Option Addr) (cap:Nat) (l:List ByteArray) (x:ByteArray) (w:World) (hl:l.length≤1000000) (hs:Sl 1 Cm w ao l):
 Calls Tryz.prog 100 #[.slice ao l.length cap, .string x] w (Sz l x w):=by
 have HS:=Aa hs
 clear hs
 go_enter Tryz.func100,Tryz.ntmps100
 go_wp2
 go_loopw [8] (fun iv wr=> ∃ k:Nat,k≤l.length∧iv= .int .i64 k∧Hid (∀ i,i < k→l[i]?≠some x)∧Hid (Below w.heap.size w wr)) (fun iv _=> l.length - (intOf iv).toNat)
 case atStart=> exact⟨0,by omega,rfl,(fun i h=> by omega),Below.refl _ _⟩
 case round=>
  obtain⟨k,hk,rfl,HN,HB⟩:=hrel
  by_cases hlt:k < l.length
  ·obtain⟨b,off,y,rfl,hbw,hlk,c0⟩:=(HS.out.later HB.out (Nat.le_refl _)).str hlt
   have f1:(0:Int)≤(k:Int)∧(k:Int) < (l.length:Int):=by omega
   obtain⟨f1,f2⟩:=f1
   by_cases hxy:x=y
   ·have HP:Hid (We l x k):=Aa (show We l x k from Or.inl ⟨k,rfl,by rw [hlk,hxy],HN.out⟩)
    have g1:(x.toList ==y.toList)=true:=by rw [hxy];exact Ag1 _
    clear hlk hxy HN
    go_wp2
    go_ret
    exact⟨⟨_,rfl,HP.out⟩,HB.out⟩
   ·have HN2:Hid (∀ i,i < k+1→l[i]?≠some x):=fun i hi=> by
     by_cases e:i=k
     ·subst e;rw [hlk];intro h;cases h;exact hxy rfl
     ·exact HN.out i (by omega)
    have g1:=Ag3 hxy
    clear hlk hxy HN
    go_wp2
    go_roundw
    case rel=> exact⟨k+1,by omega,by go_num,HN2,HB⟩
    case measure=> (simp [intOf];try omega)
  ·have HP:=Aa (show We l x (-1) from Or.inr ⟨rfl,fun i=> by
    by_cases hi:i < k
    ·exact HN.out i hi
    ·rw [List.getElem?_eq_none (by omega)];simp⟩)
   go_wp2
   go_ret
   exact⟨⟨_,rfl,HP.out⟩,HB.out⟩
theorem Ahd {w:List UInt8} {r:Int} (h:We Ln (tx w) r):max 0 r=He w∧r≤4:=by
 have e0:∀ k:Int,(tx (C3 k)=tx w)→C3 k=w:=fun k h=> Zh h
 rcases h with ⟨k,rfl,h1,h2⟩ | ⟨rfl,h2⟩
 ·have hk:k < 5:=(List.getElem?_eq_some_iff.1 h1).1
  have hn:∀ j:Nat,1≤j→j < k→C3 j≠w:=fun j h3 h4 e=> by
   have h5:Ln[j]?=some (tx (C3 j)):=by
    have:j=1∨j=2∨j=3∨j=4:=by omega
    rcases this with rfl | rfl | rfl | rfl <;> rfl
   exact h2 j h4 (by rw [h5,e])
  have:k=0∨k=1∨k=2∨k=3∨k=4:=by omega
  rcases this with rfl | rfl | rfl | rfl | rfl
  ·have e:w= []:=(Zh (Option.some.inj h1)).symm
   subst e
   exact⟨by decide,by decide⟩
  all_goals
   have e:=(Zh (Option.some.inj h1)).symm
   subst e
   exact⟨by decide,by decide⟩
 ·refine⟨?_,by decide⟩
  have hn:∀ j:Nat,1≤j→j≤4→w≠C3 j:=fun j h3 h4 e=> by
   have h5:Ln[j]?=some (tx (C3 j)):=by
    have:j=1∨j=2∨j=3∨j=4:=by omega
    rcases this with rfl | rfl | rfl | rfl <;> rfl
   exact h2 j (by rw [h5,←e])
  unfold He
  rw [if_neg (show w≠C3 1 from hn 1 (by decide) (by decide)),if_neg (show w≠C3 2 from hn 2 (by decide) (by decide)),if_neg (show w≠C3 3 from hn 3 (by decide) (by decide)),if_neg (show w≠C3 4 from hn 4 (by decide) (by decide))]
  rfl
theorem join_cons (c:UInt8) (h:List UInt8) (t:List (List UInt8)) (ht:t≠ []):Lib.join (h::t) [c]=h++c::Lib.join t [c]:=by
 cases t with
 | nil=> exact absurd rfl ht
 | cons u t=> simp [Lib.join,List.intercalate,List.intersperse]
theorem Adr (c:UInt8):∀ (n:Nat) (l:List UInt8),l.length≤n→Lib.join (splitAt c l) [c]=l:=by
 intro n
 induction n with
 | zero=>
   intro l hl
   have:l= []:=List.length_eq_zero_iff.1 (by omega)
   subst this
   rfl
 | succ n ih=>
   intro l hl
   rcases Ge c l with h | ⟨A,B,rfl,hA⟩
   ·rw [Ex h];simp [Lib.join]
   ·rw [Fq hA,join_cons c A _ (Ov _ _),ih B (by simp at hl;omega)]
theorem Ahu (l:List UInt8):∃ ws,splitAt 32 l=(Ax l).1::ws∧Lib.join ws [32]=(Ax l).2:=by
 unfold Ax
 rcases Ge 32 l with h | ⟨A,B,rfl,hA⟩
 ·rw [Ex h,Kn h]
  exact⟨[],rfl,rfl⟩
 ·rw [Fq hA,Fz hA]
  exact⟨_,rfl,Adr 32 _ B (Nat.le_refl _)⟩
theorem Amt (ws:List (List UInt8)) (sep:List UInt8):Lib.join ((ws.map tx).map (·.data.toList)) sep=Lib.join ws sep:=by
 congr 1
 rw [List.map_map]
 conv=> rhs;rw [←List.map_id ws]
 exact List.map_congr_left fun x _=> Ap x
theorem Wg (ao:Option Addr) (cap:Nat) (ws:List (List UInt8)) (w:World) (hn:(Lib.join ws [32]).length≤1000000) (hl:ws.length≤1000000) (hc:ws.length≤cap) (hs:Sl 1 Cm w ao (ws.map tx)):
 Calls Tryz.prog 89 #[.slice ao ws.length cap, .string ⟨#[32]⟩] w fun e w'=> e= .returned (.string (tx (Lib.join ws [32])))∧Below w.heap.size w w':=by
 rcases Nat.eq_zero_or_pos ws.length with h0 | h0
 ·have:=List.length_eq_zero_iff.1 h0
  subst this
  refine(Tryz.strings_Join_none ao cap ⟨#[32]⟩ w).mono ?_
  rintro e w' ⟨rfl,rfl⟩
  exact⟨rfl,Below.refl _ _⟩
 ·obtain⟨b,off,rfl,hlt,hc2⟩:=hs (by rw [List.length_map];exact h0)
  have hj:Lib.join ((ws.map tx).map (·.data.toList)) (⟨#[32]⟩:ByteArray).data.toList=Lib.join ws [32]:=Amt ws [32]
  have h:=Tryz.strings_Join b off cap (ws.map tx) ⟨#[32]⟩ w (fun j x hx=> by have:=hc2 j x 0 _ hx rfl;simpa using this) hlt (by rw [List.length_map];omega) (by rw [List.length_map];exact hc) (by rw [hj];omega)
  rw [hj,List.length_map] at h
  exact h
end Go.Proofs.YtbibeionenjmfaaGreatDoor
namespace Go.Proofs.YtbibeionenjmfaaGreatDoor
open Go.RowKit
theorem Afc {l:List As} {i:Nat} (h:l.findIdx? (fun p=> p.st ==0)=some i):∃ p,l[i]?=some p∧p.st=0:=by
 obtain⟨hi,h1,_⟩:=List.findIdx?_eq_some_iff_getElem.1 h
 exact⟨l[i],List.getElem?_eq_getElem hi,by simpa using h1⟩
theorem Abh {o:Ba} {f:Bool} {i:Nat} (h:Jy o=some (f,i)):(∃ p,(Eb o f)[i]?=some p∧p.st=0)∧(f=true→Ig o.parts=true):=by
 unfold Jy at h
 split at h
 ·cases h
 ·split at h
  ·next i' hi=>
   cases h
   exact⟨Afc hi,fun hc=> by cases hc⟩
  ·split at h
   ·next hall=>
    cases hf:o.Bw.findIdx? (fun p=> p.st ==0) with
    | none=> rw [hf] at h;cases h
    | some i'=>
      rw [hf] at h
      cases h
      exact⟨Afc hf,fun _=> hall⟩
   ·cases h
theorem Abi (q:Nat):∀ (l:List Ba) (n:Nat) (t:Ev),C7 q n l=some t→n≤t.1∧∃ o,l[t.1 - n]?=some o∧o.queue=q∧Jy o=some (t.2.1,t.2.2)
 | [],_,_,h=> by cases h
 | o::l,n,t,h=> by
   have hrec:C7 q (n+1) l=some t→n≤t.1∧∃ o',(o::l)[t.1 - n]?=some o'∧o'.queue=q∧Jy o'=some (t.2.1,t.2.2):=fun h1=> by
    obtain⟨h2,o',h3,h4⟩:=Abi q l (n+1) t h1
    refine⟨by omega,o',?_,h4⟩
    have e1:t.1 - n=(t.1 - (n+1))+1:=by omega
    rw [e1,List.getElem?_cons_succ]
    exact h3
   unfold C7 at h
   split at h
   ·next hq=>
    split at h
    ·next f i hj=>
     cases h
     exact⟨Nat.le_refl _,o,by simp,hq,hj⟩
    ·exact hrec h
   ·exact hrec h
theorem Uo (q:Nat):∀ (l:List Ba) (n:Nat),C7 q n l=none→∀ o∈l,o.queue=q→Jy o=none
 | [],_,_,_,ho,_=> by cases ho
 | o::l,n,h,o',ho,hq=> by
   unfold C7 at h
   rcases List.mem_cons.1 ho with e | hm
   ·subst e
    rw [if_pos hq] at h
    split at h
    ·cases h
    ·next hj=> exact hj
   ·refine Uo q l (n+1) ?_ o' hm hq
    split at h
    ·split at h
     ·cases h
     ·exact h
    ·exact h
theorem Un {F:Ad} {t:Ev} (h:H8 F=some t):∃ o,F.Af[t.1]?=some o∧Jy o=some (t.2.1,t.2.2)∧(o.queue:Int)=Bv F.Aj (Iq F) (Cv F) F.Aj.length:=by
 unfold H8 at h
 dsimp only at h
 split at h
 ·cases h
 ·next hq=>
  obtain⟨_,o,h1,h2,h3⟩:=Abi _ _ _ _ h
  rw [Nat.sub_zero] at h1
  exact⟨o,h1,h3,by omega⟩
theorem Uv {F:Ad} {t:Ev} {o:Ba} (ho:F.Af[t.1]?=some o) (hn:Jy o=some (t.2.1,t.2.2)):∃ p,ofM F t=some p∧p.st=0:=by
 obtain⟨⟨p,h1,h2⟩,_⟩:=Abh hn
 exact⟨p,by unfold ofM;rw [ho];exact h1,h2⟩
theorem InvM.offer {F:Ad} (h:InvM F) (w:Int):InvM (A4 F w).2:=by
 unfold A4
 dsimp only
 split
 ·exact h
 ·next hr=>
  have hr0:(Dy F w).2=0:=Decidable.byContradiction hr
  split
  ·exact h
  ·next t ht=>
   obtain⟨o,ho,hn,_⟩:=Un ht
   obtain⟨p,hp,_⟩:=Uv ho hn
   obtain⟨_,b,hb,hoff⟩:=U5 hr0
   exact h.begin hb hoff hp
theorem Ad6 {o:Ba} (h2:Ig o.Bw=false) (h0:∀ (go:Bool) (i:Nat) (p:As),(Eb o go)[i]?=some p→p.st=0∨p.st=2):∃ t,Jy o=some t:=by
 have hfind:∀ l:List As,(∀ (i:Nat) (p:As),l[i]?=some p→p.st=0∨p.st=2)→Ig l=false→∃ i,l.findIdx? (fun p=> p.st ==0)=some i:=fun l hl hd=> by
  cases hf:l.findIdx? (fun p=> p.st ==0) with
  | some i=> exact⟨i,rfl⟩
  | none=>
    exfalso
    have h1:=List.findIdx?_eq_none_iff.1 hf
    have h3:Ig l=true:=by
     unfold Ig
     rw [List.all_eq_true]
     intro p hp
     obtain⟨i,hi⟩:=List.mem_iff_getElem?.1 hp
     rcases hl i p hi with e | e
     ·have:=h1 p hp;rw [e] at this;exact absurd this (by decide)
     ·rw [e];rfl
    rw [h3] at hd
    cases hd
 unfold Jy
 rw [if_neg (by rw [h2];decide)]
 cases hp:o.parts.findIdx? (fun p=> p.st ==0) with
 | some i=> exact⟨_,rfl⟩
 | none=>
   dsimp only
   have hall:Ig o.parts=true:=by
    cases hd:Ig o.parts with
    | true=> rfl
    | false=>
      obtain⟨i,hi⟩:=hfind o.parts (fun i p hi=> h0 false i p hi) hd
      rw [hp] at hi
      cases hi
   rw [if_pos hall]
   obtain⟨i,hi⟩:=hfind o.Bw (fun i p hi=> h0 true i p hi) h2
   rw [hi]
   exact⟨_,rfl⟩
end Go.Proofs.YtbibeionenjmfaaGreatDoor
