/- job.names: the map of the kinds' names. -/
import Derived.Maps.OwnSet
import Derived.Maps.RangeWalk
import Derived.Test.YtbibeionenjmfaaGreatDoorZStd
set_option linter.unusedSimpArgs false
set_option linter.unusedVariables false
namespace Go.Proofs.YtbibeionenjmfaaGreatDoor
open Go.RowKit
theorem Bj {H:Type} {P:Program} (w:World) {ops:Array Oper} {rest:List Oper} {o:Oper} {a:Act} {Q:Exit→Act→World→Prop}
 (hg:o.guard=none) (m x v:Operand) (t:TypeId) (hop:o.op=Op.insert t m x v)
 (k e:TypeId) (K:Maps.Keyed P k) (ht:P.underlying t=some (.map k e)) (R:Value→Option (DataW H×List MemPlace)) (b n:Nat) (D:DataW H)
 (hm:a.eval m= .map (some b)) (hown:w.ownsMap P k R b n D) (hn:n < maxLen) (key val:Value) (kl:Lit) (hx:a.eval x=key) (hv:a.eval v=val) (hkey:keyOf P k key=some kl)
 (d:DataW H) (ps:List MemPlace) (hval:R val=some (d,ps))
 (hK:∀ w',w'.ownsMap P k R b (n+1) (D.put kl d)→w.grownBy w' (some b)→wpList P ops Q rest (a.put o.dst undef) w'):
 wpList P ops Q (o::rest) a w:=by
 refine wpList_plain hg fun K' hK'=> ?_
 obtain⟨w',hrun,r1,r2⟩:=hown.update K ht hn hkey hval
 unfold Oper.wp
 simp [execOp,hop,hm,hx,hv,hrun,Result.andThen]
 exact hK' _ _ (hK w' r1 r2)
theorem plainElem_string_inv {H:Type} {P:Program} {e:TypeId} (he:P.underlying e=some .string) {v:Value} {z:DataW H×List MemPlace} (h:plainElem P e v=some z):∃ s:ByteArray,v= .string s∧z=(.lit (.string s.data.toList), [])∧s.size≤maxLen:=by
 unfold plainElem at h
 rw [he] at h
 cases v <;> simp at h
 exact⟨_,rfl,h.2.symm,h.1⟩
def A8 (k:Int):List UInt8:=
 if k=1 then [105,116] else if k=2 then [108,105,110,101] else if k=3 then [119,111,114,100] else if k=4 then [116,101,120,116] else if k=5 then [99,97,116]
 else if k=6 then [99,117,116] else if k=7 then [110,117,109] else if k=8 then [108,101,110] else if k=9 then [109,97,110,121] else if k=10 then [97,100,100] else []
def Akx:List (Lit×DataW Unit):= [1,2,3,4,5,6,7,8,9,10].map fun k=> (.int .i64 k, .lit (.string (A8 k)))
def Jd:DataW Unit:= .map Akx
theorem Vl {P:Program} (w:World) {ops:Array Oper} {rest:List Oper} {o:Oper} {a:Act} {Q:Exit→Act→World→Prop} (t:TypeId) (hg:o.guard=none) (hop:o.op=Op.makeMap t none)
 (hK:∀ w',w'=w.alloc (.map #[] 0)→wpList P ops Q rest (a.put o.dst (.map (some w.heap.size))) w'):wpList P ops Q (o::rest) a w:=by
 refine wpList_plain hg fun K' hK'=> ?_
 unfold Oper.wp
 have hrun:(Instr.makeMap t none).run P w= .ok (.map (some w.heap.size)) (w.alloc (.map #[] 0)):=rfl
 simp [execOp,hop,hrun,Result.andThen]
 exact hK' _ _ (hK _ rfl)
theorem Ej:Maps.Keyed Tryz.prog 3:=Maps.int_keyed Tryz.underlying3
theorem G7 (k:Int) (h: -9223372036854775808≤k∧k≤9223372036854775807):keyOf Tryz.prog 3 (.int .i64 k)=some (.int .i64 k):=Maps.keyOf_int_mk Tryz.underlying3 (by have h1:IntKind.i64.min= -9223372036854775808:=rfl;have h2:IntKind.i64.max=9223372036854775807:=rfl;simp only [Lit.wf,h1,h2,Bool.and_eq_true,decide_eq_true_eq];exact h)
theorem Fi (s:ByteArray) (h:s.size≤maxLen):plainElem (H:=Unit) Tryz.prog 9 (.string s)=some (.lit (.string s.data.toList), []):=plainElem_string Tryz.underlying9 h
theorem E6 {w0 w w':World} {B b:Nat} (hb:Below B w0 w) (h0:B≤w0.heap.size) (hB:B≤b) (h:w.grownBy w' (some b)):Below B w0 w':=
 hb.trans ⟨h.os,h.tape,h.output,h.size,fun k hk=> h.block k (by have:=hb.size;omega) (by simp;omega)⟩
theorem Ah3:(((((((((((DataW.map []:DataW Unit).put (.int .i64 1) (.lit (.string (A8 1)))).put (.int .i64 2) (.lit (.string (A8 2)))).put (.int .i64 3) (.lit (.string (A8 3)))).put (.int .i64 4) (.lit (.string (A8 4)))).put (.int .i64 5) (.lit (.string (A8 5)))).put (.int .i64 6) (.lit (.string (A8 6)))).put (.int .i64 7) (.lit (.string (A8 7)))).put (.int .i64 8) (.lit (.string (A8 8)))).put (.int .i64 9) (.lit (.string (A8 9)))).put (.int .i64 10) (.lit (.string (A8 10))))=Jd:=by kernel_rfl
theorem Ad3 {w:World} {b:Nat} {k:Int} (h:w.ownsMap Tryz.prog 3 (plainElem Tryz.prog 9) b 10 Jd) (hk:1≤k∧k≤10):(Instr.lookup 261 (.map (some b)) (.int .i64 k) false).run Tryz.prog w= .ok (.string ⟨(A8 k).toArray⟩) w:=by
 obtain⟨v,ps,hrun,hv⟩:=h.lookup Ej Tryz.underlying261 (z:= .string ⟨#[]⟩) (by kernel_rfl) (Fi _ (by decide)) (G7 k (by omega))
 rw [hrun]
 obtain⟨s,rfl,hs,_⟩:=plainElem_string_inv Tryz.underlying9 hv
 have h1:k=1∨k=2∨k=3∨k=4∨k=5∨k=6∨k=7∨k=8∨k=9∨k=10:=by omega
 have e:DataW.atKey Jd (.int .i64 k) (.lit (.string (⟨#[]⟩:ByteArray).data.toList))= .lit (.string (A8 k)):=by
  rcases h1 with rfl | rfl | rfl | rfl | rfl | rfl | rfl | rfl | rfl | rfl <;> kernel_rfl
 rw [e] at hs
 simp only [Prod.mk.injEq,DataW.lit.injEq,Lit.string.injEq] at hs
 rw [hs.1]
set_option maxRecDepth 100000 in
set_option maxHeartbeats 2000000 in
theorem Xm (w:World):Calls Tryz.prog 171 #[] w fun e w'=> e= .returned (.map (some w.heap.size))∧w'.ownsMap Tryz.prog 3 (plainElem Tryz.prog 9) w.heap.size 10 Jd∧Below w.heap.size w w':=by
 go_enter Tryz.func171,Tryz.ntmps171
 go_wp2_with (first | (refine Vl _ 261 rfl rfl ?_) | (refine Bj _ rfl _ _ _ 261 rfl 3 9 Ej Tryz.underlying261 _ w.heap.size 0 _ rfl (World.ownsMap_made w Tryz.prog 3 _) (by decide) _ _ (.int .i64 1) rfl rfl (G7 1 (by decide)) (.lit (.string (A8 1))) [] (Fi _ (by decide)) ?_))
 intro w1 ho hg
 have hb2:=E6 ((Below.refl w.heap.size w).alloc (Nat.le_refl _) (.map #[] 0)) (Nat.le_refl _) (Nat.le_refl _) hg
 clear hg
 have hown:=ho
 have hb:=hb2
 clear ho hb2
 refine Bj w1 rfl _ _ _ 261 rfl 3 9 Ej Tryz.underlying261 _ w.heap.size 1 _ rfl hown (by decide) _ _ (.int .i64 2) rfl rfl (G7 2 (by decide)) (.lit (.string (A8 2))) [] (Fi _ (by decide)) ?_
 intro w2 ho hg
 have hb2:=E6 hb (Nat.le_refl _) (Nat.le_refl _) hg
 clear hown hb hg
 have hown:=ho
 have hb:=hb2
 clear ho hb2
 refine Bj w2 rfl _ _ _ 261 rfl 3 9 Ej Tryz.underlying261 _ w.heap.size 2 _ rfl hown (by decide) _ _ (.int .i64 3) rfl rfl (G7 3 (by decide)) (.lit (.string (A8 3))) [] (Fi _ (by decide)) ?_
 intro w3 ho hg
 have hb2:=E6 hb (Nat.le_refl _) (Nat.le_refl _) hg
 clear hown hb hg
 have hown:=ho
 have hb:=hb2
 clear ho hb2
 refine Bj w3 rfl _ _ _ 261 rfl 3 9 Ej Tryz.underlying261 _ w.heap.size 3 _ rfl hown (by decide) _ _ (.int .i64 4) rfl rfl (G7 4 (by decide)) (.lit (.string (A8 4))) [] (Fi _ (by decide)) ?_
 intro w4 ho hg
 have hb2:=E6 hb (Nat.le_refl _) (Nat.le_refl _) hg
 clear hown hb hg
 have hown:=ho
 have hb:=hb2
 clear ho hb2
 refine Bj w4 rfl _ _ _ 261 rfl 3 9 Ej Tryz.underlying261 _ w.heap.size 4 _ rfl hown (by decide) _ _ (.int .i64 5) rfl rfl (G7 5 (by decide)) (.lit (.string (A8 5))) [] (Fi _ (by decide)) ?_
 intro w5 ho hg
 have hb2:=E6 hb (Nat.le_refl _) (Nat.le_refl _) hg
 clear hown hb hg
 have hown:=ho
 have hb:=hb2
 clear ho hb2
 refine Bj w5 rfl _ _ _ 261 rfl 3 9 Ej Tryz.underlying261 _ w.heap.size 5 _ rfl hown (by decide) _ _ (.int .i64 6) rfl rfl (G7 6 (by decide)) (.lit (.string (A8 6))) [] (Fi _ (by decide)) ?_
 intro w6 ho hg
 have hb2:=E6 hb (Nat.le_refl _) (Nat.le_refl _) hg
 clear hown hb hg
 have hown:=ho
 have hb:=hb2
 clear ho hb2
 refine Bj w6 rfl _ _ _ 261 rfl 3 9 Ej Tryz.underlying261 _ w.heap.size 6 _ rfl hown (by decide) _ _ (.int .i64 7) rfl rfl (G7 7 (by decide)) (.lit (.string (A8 7))) [] (Fi _ (by decide)) ?_
 intro w7 ho hg
 have hb2:=E6 hb (Nat.le_refl _) (Nat.le_refl _) hg
 clear hown hb hg
 have hown:=ho
 have hb:=hb2
 clear ho hb2
 refine Bj w7 rfl _ _ _ 261 rfl 3 9 Ej Tryz.underlying261 _ w.heap.size 7 _ rfl hown (by decide) _ _ (.int .i64 8) rfl rfl (G7 8 (by decide)) (.lit (.string (A8 8))) [] (Fi _ (by decide)) ?_
 intro w8 ho hg
 have hb2:=E6 hb (Nat.le_refl _) (Nat.le_refl _) hg
 clear hown hb hg
 have hown:=ho
 have hb:=hb2
 clear ho hb2
 refine Bj w8 rfl _ _ _ 261 rfl 3 9 Ej Tryz.underlying261 _ w.heap.size 8 _ rfl hown (by decide) _ _ (.int .i64 9) rfl rfl (G7 9 (by decide)) (.lit (.string (A8 9))) [] (Fi _ (by decide)) ?_
 intro w9 ho hg
 have hb2:=E6 hb (Nat.le_refl _) (Nat.le_refl _) hg
 clear hown hb hg
 have hown:=ho
 have hb:=hb2
 clear ho hb2
 refine Bj w9 rfl _ _ _ 261 rfl 3 9 Ej Tryz.underlying261 _ w.heap.size 9 _ rfl hown (by decide) _ _ (.int .i64 10) rfl rfl (G7 10 (by decide)) (.lit (.string (A8 10))) [] (Fi _ (by decide)) ?_
 intro w10 ho hg
 have hb2:=E6 hb (Nat.le_refl _) (Nat.le_refl _) hg
 clear hown hb hg
 have hown:=ho
 have hb:=hb2
 clear ho hb2
 rw [Ah3] at hown
 have HO:=Aa hown
 have HB:=Aa hb
 clear hown hb
 go_wp2
 go_ret
 exact⟨rfl,HO.out,HB.out⟩
end Go.Proofs.YtbibeionenjmfaaGreatDoor
