/- job.names: the map of the kinds' names. -/
import Derived.Maps.OwnSet
import Derived.Maps.RangeWalk
import Derived.Test.YtbibeionenjmfaaGreatDoorStd
set_option linter.unusedSimpArgs false
set_option linter.unusedVariables false
namespace Go.Proofs.YtbibeionenjmfaaGreatDoor
open Go.RowKit
def Zq (v:Value):Option (DataW Value×List MemPlace):=some (.held v, [])
def Ds (w:World) (P:Program) (k:TypeId) (b:Nat) (f:Value→Option Value):Prop:=
 ∃ n D,w.ownsMap P k Zq b n D∧∀ key kl,keyOf P k key=some kl→(f key=none∧Maps.has D kl=false)∨∃ v,f key=some v∧Maps.has D kl=true∧∀ z,D.atKey kl z= .held v
open Classical in
noncomputable def L7 (f:Value→Option Value) (key:Value) (v:Option Value):Value→Option Value:=fun x=> if x=key then v else f x
theorem Hi (f:Value→Option Value) (key:Value) (v:Option Value):L7 f key v key=v:=if_pos rfl
theorem Fg {f:Value→Option Value} {key x:Value} {v:Option Value} (h:x≠key):L7 f key v x=f x:=if_neg h
section
variable {w w':World} {P:Program} {k t e:TypeId} {b:Nat} {f:Value→Option Value}
theorem Ds.kept {T:Nat→Prop} (h:Ds w P k b f) (hk:Ab T w w') (hT:¬ T b):Ds w' P k b f:=by
 obtain⟨n,D,⟨es,clock,hb,r⟩,hf⟩:=h
 exact⟨n,D,⟨es,clock,by rw [hk.block b (Array.getElem?_eq_some_iff.1 hb).1 hT];exact hb,r⟩,hf⟩
theorem Ds.lt (h:Ds w P k b f):b < w.heap.size:=by
 obtain⟨n,D,h,_⟩:=h
 exact h.lt
theorem Ds.made (w:World) (P:Program) (k:TypeId):Ds (w.alloc (.map #[] 0)) P k w.heap.size fun _=> none:=
 ⟨0, .map [],World.ownsMap_made w P k Zq,fun key kl _=> .inl ⟨rfl,rfl⟩⟩
theorem Ds.look (h:Ds w P k b f) (K:Maps.Keyed P k) (ht:P.underlying t=some (.map k e)) {z:Value} (hz:(zeroValue e).run P w= .ok z w) {key:Value} {kl:Lit} (hkey:keyOf P k key=some kl):
 (Instr.lookup t (.map (some b)) key true).run P w= .ok (.tuple #[(f key).getD z, .bool (f key).isSome]) w:=by
 obtain⟨n,D,ho,hf⟩:=h
 obtain⟨v,ps,hrun,hv⟩:=ho.look_ok K ht hz (zd:= .held z) (zp:= []) rfl hkey
 have hv2:D.atKey kl (.held z)= .held v:=by
  have:=congrArg (Option.map Prod.fst) hv
  simpa [Zq] using this.symm
 rw [hrun]
 rcases hf key kl hkey with ⟨h1,h2⟩ | ⟨u,h1,h2,h3⟩
 ·rw [Maps.atKey_of_not_has h2] at hv2
  cases hv2
  rw [h1,h2];rfl
 ·rw [h3] at hv2
  cases hv2
  rw [h1,h2];rfl
theorem Ds.Aop (h:Ds w P k b f) (K:Maps.Keyed P k) (ht:P.underlying t=some (.map k e)) {z:Value} (hz:(zeroValue e).run P w= .ok z w) {key:Value} {kl:Lit} (hkey:keyOf P k key=some kl):
 (Instr.lookup t (.map (some b)) key false).run P w= .ok ((f key).getD z) w:=by
 obtain⟨n,D,ho,hf⟩:=h
 obtain⟨v,ps,hrun,hv⟩:=ho.lookup K ht hz (zd:= .held z) (zp:= []) rfl hkey
 have hv2:D.atKey kl (.held z)= .held v:=by
  have:=congrArg (Option.map Prod.fst) hv
  simpa [Zq] using this.symm
 rw [hrun]
 rcases hf key kl hkey with ⟨h1,h2⟩ | ⟨u,h1,h2,h3⟩
 ·rw [Maps.atKey_of_not_has h2] at hv2
  cases hv2
  rw [h1];rfl
 ·rw [h3] at hv2
  cases hv2
  rw [h1];rfl
theorem R6 (h:w.mapTurned w' b):Ab (fun q=> q=b) w w':=Ab.A5 h.grown fun q e=> (Option.some.inj e).symm
theorem Ds.drop (h:Ds w P k b f) (K:Maps.Keyed P k) (ht:P.underlying t=some (.map k e)) {key:Value} {kl:Lit} (hkey:keyOf P k key=some kl) (ty:TypeId):
 ∃ w',(Builtin.delete_ #[t,k] ty #[.map (some b),key]).run P w= .ok (.tuple #[]) w'∧Ds w' P k b (L7 f key none)∧Ab (fun q=> q=b) w w':=by
 obtain⟨n,D,ho,hf⟩:=h
 obtain⟨w',hrun,ho',htn⟩:=ho.drop K ht hkey ty
 refine⟨w',hrun,⟨n,D.del kl,ho',fun x xl hx=> ?_⟩,R6 htn⟩
 by_cases hxe:x=key
 ·subst hxe
  rw [hkey] at hx
  obtain rfl:=Option.some.inj hx
  exact .inl ⟨Hi _ _ _,Maps.has_del_same⟩
 ·have hne:xl≠kl:=fun e=> hxe (K.inj (e ▸ hx) hkey)
  rw [Fg hxe,Maps.has_del_other hne]
  simp only [Maps.atKey_del_other hne]
  exact hf x xl hx
theorem Ly {α:Type}:∀ (l L:List α),l.Pairwise (fun a b=> a≠b)→(∀ x∈l,x∈L)→l.length≤L.length
 | [],_,_,_=> Nat.zero_le _
 | x::r,L,hp,hs=> by
   obtain⟨h1,h2⟩:=List.pairwise_cons.1 hp
   obtain⟨A,B,rfl⟩:=List.append_of_mem (hs x (by simp))
   have:=Ly r (A++B) h2 fun y hy=> by
    have hy2:=hs y (by simp [hy])
    have hne:=h1 y hy
    rcases List.mem_append.1 hy2 with h | h
    ·exact List.mem_append_left _ h
    ·rcases List.mem_cons.1 h with rfl | h
     ·exact absurd rfl hne
     ·exact List.mem_append_right _ h
   simp only [List.length_append,List.length_cons] at this ⊢
   omega
theorem Ds.small (h:Ds w P k b f) (K:Maps.Keyed P k) (ht:P.underlying t=some (.map k e)) {z:Value} (hz:(zeroValue e).run P w= .ok z w) {L:List Value} (hL:∀ x,f x≠none→x∈L):
 ∃ D,w.ownsMap P k Zq b L.length D∧∀ key kl,keyOf P k key=some kl→(f key=none∧Maps.has D kl=false)∨∃ v,f key=some v∧Maps.has D kl=true∧∀ z,D.atKey kl z= .held v:=by
 obtain⟨n,D,⟨es,clock,hb,F,hn,hD⟩,hf⟩:=h
 refine⟨D,⟨es,clock,hb,F,?_,hD⟩,hf⟩
 have hap:es.toList.Pairwise (fun x y=> x.key≠y.key):=((MapKept.stamped_iff es clock).1 F.stamped).2.2
 have h1:=Ly (es.toList.map MapEntry.key) L (List.pairwise_map.2 hap) fun x hx=> by
  obtain⟨e0,he0,rfl⟩:=List.mem_map.1 hx
  obtain⟨y,hy⟩:=F.reads e0 he0
  have hk:=WideElems.rd_key hy
  refine hL _ fun hn0=> ?_
  rcases Maps.fit_look false K ht hz hb F hk with ⟨_,hno,_⟩ | ⟨e1,y1,h1,h2,_,_,hat,_⟩
  ·exact hno e0 he0 rfl
  ·have:=Maps.has_true_of_atKey hat
   rw [←hD] at this
   rcases hf _ _ hk with ⟨_,h4⟩ | ⟨v,h4,_⟩
   ·rw [h4] at this;cases this
   ·rw [h4] at hn0;cases hn0
 simpa using h1
theorem Ds.store (h:Ds w P k b f) (K:Maps.Keyed P k) (ht:P.underlying t=some (.map k e)) {z:Value} (hz:(zeroValue e).run P w= .ok z w) {L:List Value} (hL:∀ x,f x≠none→x∈L) (hl:L.length≤1000) {key val:Value} {kl:Lit} (hkey:keyOf P k key=some kl):
 ∃ w',(Instr.mapUpdate t (.map (some b)) key val).run P w= .ok () w'∧Ds w' P k b (L7 f key (some val))∧Ab (fun q=> q=b) w w':=by
 obtain⟨D,ho,hf⟩:=h.small K ht hz hL
 have hD:=ho.isMap
 obtain⟨w',hrun,ho',htn⟩:=ho.store K ht (by unfold maxLen;omega) hkey (val:=val) (d:= .held val) (ps:= []) rfl
 refine⟨w',hrun,⟨_,_,ho',fun x xl hx=> ?_⟩,R6 htn⟩
 by_cases hxe:x=key
 ·subst hxe
  rw [hkey] at hx
  obtain rfl:=Option.some.inj hx
  exact .inr ⟨val,Hi _ _ _,Maps.has_put_same hD (K.key hkey) _,fun z=> Maps.atKey_put_same hD (K.key hkey) _ z⟩
 ·have hne:xl≠kl:=fun e=> hxe (K.inj (e ▸ hx) hkey)
  rw [Fg hxe,Maps.has_put_other hne]
  simp only [Maps.atKey_put_other hne]
  exact hf x xl hx
end
theorem Gx {P:Program} {w:World} {ops:Array Oper} {rest:List Oper} {o:Oper} {a:Act} {Q:Exit→Act→World→Prop} (hg:o.guard=none) (m x v:Operand) (t:TypeId) (hop:o.op=Op.mapUpdate t m x v) (bb:Nat) (key val:Value)
 (hm:a.eval m= .map (some bb)) (hx:a.eval x=key) (hv:a.eval v=val) {w':World} (hrun:(Instr.mapUpdate t (.map (some bb)) key val).run P w= .ok () w')
 (hK:wpList P ops Q rest (a.put o.dst undef) w'):wpList P ops Q (o::rest) a w:=by
 refine wpList_plain hg fun K' hK'=> ?_
 unfold Oper.wp
 simp [execOp,hop,hm,hx,hv,hrun,Result.andThen]
 exact hK' _ _ hK
theorem U5 {P:Program} {w:World} {ops:Array Oper} {rest:List Oper} {o:Oper} {a:Act} {Q:Exit→Act→World→Prop} (hg:o.guard=none) (m x:Operand) (t k:TypeId) (hop:o.op=Op.call {callee:=Callee.builtin Builtin.delete,args:= #[m,x],argTypes:= #[t,k]}) (bb:Nat) (key:Value)
 (hm:a.eval m= .map (some bb)) (hx:a.eval x=key) {w':World} (hrun:(Builtin.delete_ #[t,k] o.type #[.map (some bb),key]).run P w= .ok (.tuple #[]) w')
 (hK:wpList P ops Q rest (a.put o.dst (.tuple #[])) w'):wpList P ops Q (o::rest) a w:=by
 refine wpList_plain hg fun K' hK'=> ?_
 unfold Oper.wp
 simp [execOp,hop,resolve,invoke,builtin,hm,hx,hrun,Result.andThen]
 exact hK' _ _ hK
end Go.Proofs.YtbibeionenjmfaaGreatDoor
namespace Go.Proofs.YtbibeionenjmfaaGreatDoor
open Go.RowKit
theorem Be {H:Type} {P:Program} (w:World) {ops:Array Oper} {rest:List Oper} {o:Oper} {a:Act} {Q:Exit→Act→World→Prop}
 (hg:o.guard=none) (m x v:Operand) (t:TypeId) (hop:o.op=Op.insert t m x v)
 (k e:TypeId) (K:Maps.Keyed P k) (ht:P.underlying t=some (.map k e)) (R:Value→Option (DataW H×List MemPlace)) (b n:Nat) (D:DataW H)
 (hm:a.eval m= .map (some b)) (hown:w.ownsMap P k R b n D) (hn:n < maxLen) (key val:Value) (kl:Lit) (hx:a.eval x=key) (hv:a.eval v=val) (hkey:keyOf P k key=some kl)
 (d:DataW H) (ps:List MemPlace) (hval:R val=some (d,ps))
 (hK:∀ w',w'.ownsMap P k R b (n+1) (D.put kl d)→w.grownBy w' (some b)→wpList P ops Q rest (a.put o.dst undef) w'):
 wpList P ops Q (o::rest) a w:=by
 refine wpList_plain hg fun K' hK'=> ?_
 obtain⟨w',hrun,r1,r2⟩:=hown.update K ht hn hkey hval
 unfold Oper.wp
 simp [execOp,hop,hm,hx,hv,hrun,Result.andThen]
 exact hK' _ _ (hK w' r1 r2)
theorem plainElem_string_inv {H:Type} {P:Program} {e:TypeId} (he:P.underlying e=some .string) {v:Value} {z:DataW H×List MemPlace} (h:plainElem P e v=some z):∃ s:ByteArray,v= .string s∧z=(.lit (.string s.data.toList), [])∧s.size≤maxLen:=by
 unfold plainElem at h
 rw [he] at h
 cases v <;> simp at h
 exact⟨_,rfl,h.2.symm,h.1⟩
def A6 (k:Int):List UInt8:=
 if k=1 then [105,116] else if k=2 then [108,105,110,101] else if k=3 then [119,111,114,100] else if k=4 then [116,101,120,116] else if k=5 then [99,97,116]
 else if k=6 then [99,117,116] else if k=7 then [110,117,109] else if k=8 then [108,101,110] else if k=9 then [109,97,110,121] else if k=10 then [97,100,100] else []
def Aj1:List (Lit×DataW Unit):= [1,2,3,4,5,6,7,8,9,10].map fun k=> (.int .i64 k, .lit (.string (A6 k)))
def Jc:DataW Unit:= .map Aj1
theorem Sv {P:Program} (w:World) {ops:Array Oper} {rest:List Oper} {o:Oper} {a:Act} {Q:Exit→Act→World→Prop} (t:TypeId) (hg:o.guard=none) (hop:o.op=Op.makeMap t none)
 (hK:∀ w',w'=w.alloc (.map #[] 0)→wpList P ops Q rest (a.put o.dst (.map (some w.heap.size))) w'):wpList P ops Q (o::rest) a w:=by
 refine wpList_plain hg fun K' hK'=> ?_
 unfold Oper.wp
 have hrun:(Instr.makeMap t none).run P w= .ok (.map (some w.heap.size)) (w.alloc (.map #[] 0)):=rfl
 simp [execOp,hop,hrun,Result.andThen]
 exact hK' _ _ (hK _ rfl)
theorem Ec:Maps.Keyed Tryz.prog 3:=Maps.int_keyed Tryz.underlying3
theorem Gw (k:Int) (h: -9223372036854775808≤k∧k≤9223372036854775807):keyOf Tryz.prog 3 (.int .i64 k)=some (.int .i64 k):=Maps.keyOf_int_mk Tryz.underlying3 (by have h1:IntKind.i64.min= -9223372036854775808:=rfl;have h2:IntKind.i64.max=9223372036854775807:=rfl;simp only [Lit.wf,h1,h2,Bool.and_eq_true,decide_eq_true_eq];exact h)
theorem Fm (s:ByteArray) (h:s.size≤maxLen):plainElem (H:=Unit) Tryz.prog 9 (.string s)=some (.lit (.string s.data.toList), []):=plainElem_string Tryz.underlying9 h
theorem E0 {w0 w w':World} {B b:Nat} (hb:Below B w0 w) (h0:B≤w0.heap.size) (hB:B≤b) (h:w.grownBy w' (some b)):Below B w0 w':=
 hb.trans ⟨h.os,h.tape,h.output,h.size,fun k hk=> h.block k (by have:=hb.size;omega) (by simp;omega)⟩
theorem Ahr:(((((((((((DataW.map []:DataW Unit).put (.int .i64 1) (.lit (.string (A6 1)))).put (.int .i64 2) (.lit (.string (A6 2)))).put (.int .i64 3) (.lit (.string (A6 3)))).put (.int .i64 4) (.lit (.string (A6 4)))).put (.int .i64 5) (.lit (.string (A6 5)))).put (.int .i64 6) (.lit (.string (A6 6)))).put (.int .i64 7) (.lit (.string (A6 7)))).put (.int .i64 8) (.lit (.string (A6 8)))).put (.int .i64 9) (.lit (.string (A6 9)))).put (.int .i64 10) (.lit (.string (A6 10))))=Jc:=by kernel_rfl
theorem Adt {w:World} {b:Nat} {k:Int} (h:w.ownsMap Tryz.prog 3 (plainElem Tryz.prog 9) b 10 Jc) (hk:1≤k∧k≤10):(Instr.lookup 261 (.map (some b)) (.int .i64 k) false).run Tryz.prog w= .ok (.string ⟨(A6 k).toArray⟩) w:=by
 obtain⟨v,ps,hrun,hv⟩:=h.lookup Ec Tryz.underlying261 (z:= .string ⟨#[]⟩) (by kernel_rfl) (Fm _ (by decide)) (Gw k (by omega))
 rw [hrun]
 obtain⟨s,rfl,hs,_⟩:=plainElem_string_inv Tryz.underlying9 hv
 have h1:k=1∨k=2∨k=3∨k=4∨k=5∨k=6∨k=7∨k=8∨k=9∨k=10:=by omega
 have e:DataW.atKey Jc (.int .i64 k) (.lit (.string (⟨#[]⟩:ByteArray).data.toList))= .lit (.string (A6 k)):=by
  rcases h1 with rfl | rfl | rfl | rfl | rfl | rfl | rfl | rfl | rfl | rfl <;> kernel_rfl
 rw [e] at hs
 simp only [Prod.mk.injEq,DataW.lit.injEq,Lit.string.injEq] at hs
 rw [hs.1]
set_option maxRecDepth 100000 in
set_option maxHeartbeats 2000000 in
theorem V1 (w:World):Calls Tryz.prog 171 #[] w fun e w'=> e= .returned (.map (some w.heap.size))∧w'.ownsMap Tryz.prog 3 (plainElem Tryz.prog 9) w.heap.size 10 Jc∧Below w.heap.size w w':=by
 go_enter Tryz.func171,Tryz.ntmps171
 go_wp2_with (first | (refine Sv _ 261 rfl rfl ?_) | (refine Be _ rfl _ _ _ 261 rfl 3 9 Ec Tryz.underlying261 _ w.heap.size 0 _ rfl (World.ownsMap_made w Tryz.prog 3 _) (by decide) _ _ (.int .i64 1) rfl rfl (Gw 1 (by decide)) (.lit (.string (A6 1))) [] (Fm _ (by decide)) ?_))
 intro w1 ho hg
 have hb2:=E0 ((Below.refl w.heap.size w).alloc (Nat.le_refl _) (.map #[] 0)) (Nat.le_refl _) (Nat.le_refl _) hg
 clear hg
 have hown:=ho
 have hb:=hb2
 clear ho hb2
 refine Be w1 rfl _ _ _ 261 rfl 3 9 Ec Tryz.underlying261 _ w.heap.size 1 _ rfl hown (by decide) _ _ (.int .i64 2) rfl rfl (Gw 2 (by decide)) (.lit (.string (A6 2))) [] (Fm _ (by decide)) ?_
 intro w2 ho hg
 have hb2:=E0 hb (Nat.le_refl _) (Nat.le_refl _) hg
 clear hown hb hg
 have hown:=ho
 have hb:=hb2
 clear ho hb2
 refine Be w2 rfl _ _ _ 261 rfl 3 9 Ec Tryz.underlying261 _ w.heap.size 2 _ rfl hown (by decide) _ _ (.int .i64 3) rfl rfl (Gw 3 (by decide)) (.lit (.string (A6 3))) [] (Fm _ (by decide)) ?_
 intro w3 ho hg
 have hb2:=E0 hb (Nat.le_refl _) (Nat.le_refl _) hg
 clear hown hb hg
 have hown:=ho
 have hb:=hb2
 clear ho hb2
 refine Be w3 rfl _ _ _ 261 rfl 3 9 Ec Tryz.underlying261 _ w.heap.size 3 _ rfl hown (by decide) _ _ (.int .i64 4) rfl rfl (Gw 4 (by decide)) (.lit (.string (A6 4))) [] (Fm _ (by decide)) ?_
 intro w4 ho hg
 have hb2:=E0 hb (Nat.le_refl _) (Nat.le_refl _) hg
 clear hown hb hg
 have hown:=ho
 have hb:=hb2
 clear ho hb2
 refine Be w4 rfl _ _ _ 261 rfl 3 9 Ec Tryz.underlying261 _ w.heap.size 4 _ rfl hown (by decide) _ _ (.int .i64 5) rfl rfl (Gw 5 (by decide)) (.lit (.string (A6 5))) [] (Fm _ (by decide)) ?_
 intro w5 ho hg
 have hb2:=E0 hb (Nat.le_refl _) (Nat.le_refl _) hg
 clear hown hb hg
 have hown:=ho
 have hb:=hb2
 clear ho hb2
 refine Be w5 rfl _ _ _ 261 rfl 3 9 Ec Tryz.underlying261 _ w.heap.size 5 _ rfl hown (by decide) _ _ (.int .i64 6) rfl rfl (Gw 6 (by decide)) (.lit (.string (A6 6))) [] (Fm _ (by decide)) ?_
 intro w6 ho hg
 have hb2:=E0 hb (Nat.le_refl _) (Nat.le_refl _) hg
 clear hown hb hg
 have hown:=ho
 have hb:=hb2
 clear ho hb2
 refine Be w6 rfl _ _ _ 261 rfl 3 9 Ec Tryz.underlying261 _ w.heap.size 6 _ rfl hown (by decide) _ _ (.int .i64 7) rfl rfl (Gw 7 (by decide)) (.lit (.string (A6 7))) [] (Fm _ (by decide)) ?_
 intro w7 ho hg
 have hb2:=E0 hb (Nat.le_refl _) (Nat.le_refl _) hg
 clear hown hb hg
 have hown:=ho
 have hb:=hb2
 clear ho hb2
 refine Be w7 rfl _ _ _ 261 rfl 3 9 Ec Tryz.underlying261 _ w.heap.size 7 _ rfl hown (by decide) _ _ (.int .i64 8) rfl rfl (Gw 8 (by decide)) (.lit (.string (A6 8))) [] (Fm _ (by decide)) ?_
 intro w8 ho hg
 have hb2:=E0 hb (Nat.le_refl _) (Nat.le_refl _) hg
 clear hown hb hg
 have hown:=ho
 have hb:=hb2
 clear ho hb2
 refine Be w8 rfl _ _ _ 261 rfl 3 9 Ec Tryz.underlying261 _ w.heap.size 8 _ rfl hown (by decide) _ _ (.int .i64 9) rfl rfl (Gw 9 (by decide)) (.lit (.string (A6 9))) [] (Fm _ (by decide)) ?_
 intro w9 ho hg
 have hb2:=E0 hb (Nat.le_refl _) (Nat.le_refl _) hg
 clear hown hb hg
 have hown:=ho
 have hb:=hb2
 clear ho hb2
 refine Be w9 rfl _ _ _ 261 rfl 3 9 Ec Tryz.underlying261 _ w.heap.size 9 _ rfl hown (by decide) _ _ (.int .i64 10) rfl rfl (Gw 10 (by decide)) (.lit (.string (A6 10))) [] (Fm _ (by decide)) ?_
 intro w10 ho hg
 have hb2:=E0 hb (Nat.le_refl _) (Nat.le_refl _) hg
 clear hown hb hg
 have hown:=ho
 have hb:=hb2
 clear ho hb2
 rw [Ahr] at hown
 have HO:=Aa hown
 have HB:=Aa hb
 clear hown hb
 go_wp2
 go_ret
 exact⟨rfl,HO.out,HB.out⟩
end Go.Proofs.YtbibeionenjmfaaGreatDoor
