/- Expressions: expr.Check and ref.ExprFault tell the same. -/
import Derived.Test.YtbibeionenjmfaaGreatDoorExpr4
set_option linter.unusedSimpArgs false
set_option linter.unusedVariables false
namespace Go.Proofs.YtbibeionenjmfaaGreatDoor
open Go.RowKit Go.ChangeShapes Go.WideShapes Go.ChangeAt
def C0 (e:Af) (text each:Bool):Int:=if 30 < e.nodes∨5 < e.deep then 2 else if J0 e text each then 0 else 3
theorem Agm (e:Af):(Qp e 1 30).1=true↔¬ (30 < e.nodes∨5 < e.deep):=by
 rw [(Aee e 1 30 (by decide)).1]
 constructor
 ·rintro⟨h1,h2⟩;omega
 ·intro h;omega
set_option maxRecDepth 100000 in
set_option maxHeartbeats 1000000 in
theorem Pw (d:Nat) (k n:Int) (s:ByteArray) (a:List Af) (ao:Option Addr) (cap:Nat) (w:World) (text each:Bool) (h:Ir w d (.mk k n s a) (L3 k n s ao a.length cap)):
 Calls Tryz.prog 181 #[.agg #[.int .i64 k, .int .i64 n, .string s, .slice ao a.length cap], .bool text, .bool each] w fun e w'=> e= .returned (Ed (C0 (.mk k n s a) text each))∧Below w.heap.size w w':=by
 obtain⟨c0,c1,c2,c3⟩:=Gr w k n s ao a.length cap
 have hb1:=D8 w k n s ao a.length cap
 have h1:=h.later hb1 (Nat.le_refl _)
 have hb2:Below (Df w k n s ao a.length cap).heap.size (Df w k n s ao a.length cap) ((Df w k n s ao a.length cap).alloc (.cells #[.int .i64 30] 3)):=(Below.refl _ _).alloc (Nat.le_refl _) _
 have hlt:w.heap.size < (Df w k n s ao a.length cap).heap.size:=by simp
 have e0:=cell_later hb2 c0
 have e1:=cell_later hb2 c1
 have e2:=cell_later hb2 c2
 have e3:=cell_later hb2 c3
 have HX:=Aa (Za d k n s a ao cap _ _ 1 30 (Df w k n s ao a.length cap).heap.size h1 hb2 (Nat.le_refl _) (Bk.new rfl) (by decide) (by decide) (by decide) (by decide))
 have hs1:(Df w k n s ao a.length cap).heap.size=w.heap.size+1:=by simp
 rw [hs1] at HX
 have hsz:=Agm (.mk k n s a)
 generalize Qp (.mk k n s a) 1 30=q at *
 obtain⟨q1,q2⟩:=q
 have HSZ:=Aa hsz
 have H1:=Aa h1
 have HB1:=Aa hb1
 have HB2:=Aa hb2
 have HC:Hid (∀ w':World,Below (Df w k n s ao a.length cap).heap.size (Df w k n s ao a.length cap) w'→w'.cell? ⟨w.heap.size,0,none⟩=some (.int .i64 k)∧w'.cell? ⟨w.heap.size,1,none⟩=some (.int .i64 n)∧w'.cell? ⟨w.heap.size,2,none⟩=some (.string s)∧w'.cell? ⟨w.heap.size,3,none⟩=some (.slice ao a.length cap)):=
  fun w' b=> ⟨cell_later b c0,cell_later b c1,cell_later b c2,cell_later b c3⟩
 clear hsz h1 hb1 hb2 h c0 c1 c2 c3
 dsimp only at HX
 go_enter Tryz.func181,Tryz.ntmps181
 go_wp2_with fail
 refine HX.out.mono ?_
 rintro e w3 ⟨rfl,k3,_⟩
 have hb3:=HB2.out.trans (k3.below (B:=(Df w k n s ao a.length cap).heap.size) (fun q e=> by omega) HB2.out.size)
 have hbt:=HB1.out.trans (hb3.mono HB1.out.size)
 obtain⟨g0,g1,g2,g3⟩:=HC.out w3 hb3
 clear HX k3 e0 e1 e2 e3
 cases q1
 ·have hf:C0 (.mk k n s a) text each=2:=by
   unfold C0
   rcases Decidable.em (30 < (Af.mk k n s a).nodes∨5 < (Af.mk k n s a).deep) with h | h
   ·rw [if_pos h]
   ·exact absurd (HSZ.out.2 h) (by simp)
  have HF:=Aa hf
  clear hf
  go_wp2
  go_ret
  exact⟨by rw [HF.out];rfl,hbt⟩
 ·have hf:C0 (.mk k n s a) text each=if J0 (.mk k n s a) text each then 0 else 3:=by
   unfold C0
   rw [if_neg (HSZ.out.1 rfl)]
  have HW:=Aa (Ajv d k n s a ao cap w3 text each (H1.out.later hb3 (Nat.le_refl _)))
  generalize J0 (.mk k n s a) text each=r at *
  have HBT:=Aa hbt
  have HF:=Aa hf
  clear hf hb3 hbt HC HSZ
  go_wp2_with fail
  refine HW.out.mono ?_
  rintro e w4 ⟨rfl,b4⟩
  have hb4:=HBT.out.trans (b4.mono HBT.out.size)
  clear HW b4
  cases r
  ·go_wp2
   go_ret
   exact⟨by rw [HF.out];rfl,hb4⟩
  ·go_wp2
   go_ret
   exact⟨by rw [HF.out];rfl,hb4⟩
end Go.Proofs.YtbibeionenjmfaaGreatDoor
