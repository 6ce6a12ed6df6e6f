/- The mapper: Step. -/
import Derived.Test.YtbibeionenjmfaaGreatDoorZJobCheck2
import Derived.Test.YtbibeionenjmfaaGreatDoorZHeldC
set_option linter.unusedSimpArgs false
set_option linter.unusedVariables false
namespace Go.Proofs.YtbibeionenjmfaaGreatDoor
open Go.RowKit
theorem Z3 (e:Gy) (d:Nat) (line it:ByteArray) (wo:Option Addr) (wcap:Nat) (ws:List ByteArray) (each:Bool) (w:World) (hl:line.size≤1000) (hi:it.size≤1000) (hw:∀ x∈ws,x.size≤1000) (hws:ws.length≤1000) (h:Ip w d e.tree e.cells) (hsh:Kg e.tree true each=true) (hn:e.tree.nodes≤30) (hs:Sl 1 Cm w wo ws):
 Calls Tryz.prog 183 #[e.agg, .agg #[.string line, .string it, .slice wo ws.length wcap]] w fun q w'=> q= .returned (.string (Ga e.tree line it ws))∧Below w.heap.size w w':=
 Ae7 line it wo wcap ws each hws (Xz hl hi hw) d e.k e.n e.s e.a e.ao e.cap w h hsh (by have:e.tree.nodes=(Ah.mk e.k e.n e.s e.a).nodes:=rfl;omega) hs
theorem Ai5 (e:Gy) (d:Nat) (line it:ByteArray) (wo:Option Addr) (wcap:Nat) (ws:List ByteArray) (each:Bool) (w:World) (hl:line.size≤1000) (hi:it.size≤1000) (hw:∀ x∈ws,x.size≤1000) (hws:ws.length≤1000) (h:Ip w d e.tree e.cells) (hsh:Kg e.tree false each=true) (hn:e.tree.nodes≤30) (hs:Sl 1 Cm w wo ws):
 Calls Tryz.prog 185 #[e.agg, .agg #[.string line, .string it, .slice wo ws.length wcap]] w fun q w'=> q= .returned (.int .i64 (Kd e.tree line it ws))∧Below w.heap.size w w':=
 Al1 line it wo wcap ws each hws (Xz hl hi hw) d e.k e.n e.s e.a e.ao e.cap w h hsh (by have:e.tree.nodes=(Ah.mk e.k e.n e.s e.a).nodes:=rfl;omega) hs
set_option maxRecDepth 100000 in
set_option maxHeartbeats 4000000 in
theorem Ane (r:Ao) (d:Nat) (line it:ByteArray) (wo:Option Addr) (wcap:Nat) (ws:List ByteArray) (kind:Int) (w:World) (hr:Ka w d r) (hok:Gz r.v) (hl:line.size≤1000) (hi:it.size≤1000) (hw:∀ x∈ws,x.size≤1000) (hws:ws.length≤1000) (hs:Sl 1 Cm w wo ws):
 Calls Tryz.prog 156 #[r.agg, .agg #[.string line, .string it, .slice wo ws.length wcap], .int .i64 kind] w fun e w'=> (∃ p:Pr,e= .returned (.tuple #[.agg #[.string p.1, .int .i64 p.2], .bool (ifR r.v line it ws)])∧(ifR r.v line it ws=true→p=Ux r.v kind line it ws))∧Below w.heap.size w w':=by
 obtain⟨W1,hW1⟩:∃ W,W=w.alloc (.cells #[.bool r.each, .int .i64 r.Bc, .int .i64 r.cond.k, .int .i64 r.cond.n, .string r.cond.s, .slice r.cond.ao r.cond.a.length r.cond.cap, .string r.C1, .int .i64 r.key.k, .int .i64 r.key.n, .string r.key.s, .slice r.key.ao r.key.a.length r.key.cap, .int .i64 r.val.k, .int .i64 r.val.n, .string r.val.s, .slice r.val.ao r.val.a.length r.val.cap] 193):=⟨_,rfl⟩
 obtain⟨W2,hW2⟩:∃ W,W=W1.alloc (.cells #[.string line, .string it, .slice wo ws.length wcap] 246):=⟨_,rfl⟩
 have hb1:Below w.heap.size w W1:=by rw [hW1];exact(Below.refl _ _).alloc (Nat.le_refl _) _
 have hb2:Below W1.heap.size W1 W2:=by rw [hW2];exact(Below.refl _ _).alloc (Nat.le_refl _) _
 have hbk:Bk W1 w.heap.size (A6 r):=by rw [hW1];exact Bk.new rfl
 have hbx:Bk W2 W1.heap.size [.string line, .string it, .slice wo ws.length wcap]:=by rw [hW2];exact Bk.new rfl
 have hz1:W1.heap.size=w.heap.size+1:=by rw [hW1];simp
 have hz2:W2.heap.size=w.heap.size+1+1:=by rw [hW2];simp [hz1]
 have HB:=Aa (hb1.trans (hb2.mono hb1.size))
 have HBK:=Aa (hbk.later hb2)
 have HBX:=Aa hbx
 have HW1:=Aa hW1
 have HW2:=Aa hW2
 have HSC:=Aa fun w' (hb:Below w.heap.size w w') (h0:r.Bc≠0)=> Z3 r.cond d line it wo wcap ws r.each w' hl hi hw hws (hr.cond.later hb (Nat.le_refl _)) (hok.cond h0).2.2 (hok.cond h0).1 (hs.later hb (Nat.le_refl _))
 have HSV:=Aa fun w' (hb:Below w.heap.size w w')=> Ai5 r.val d line it wo wcap ws r.each w' hl hi hw hws (hr.val.later hb (Nat.le_refl _)) hok.val.2.2 hok.val.1 (hs.later hb (Nat.le_refl _))
 have HSK:=Aa fun w' (hb:Below w.heap.size w w')=> Z3 r.key d line it wo wcap ws r.each w' hl hi hw hws (hr.key.later hb (Nat.le_refl _)) hok.key.2.2 hok.key.1 (hs.later hb (Nat.le_refl _))
 unfold Gy.agg at HSC HSK HSV
 clear hb1 hb2 hbk hbx hW1 hW2
 show Calls Tryz.prog 156 #[.agg #[.bool r.each, .int .i64 r.Bc, .int .i64 r.cond.k, .int .i64 r.cond.n, .string r.cond.s, .slice r.cond.ao r.cond.a.length r.cond.cap, .string r.C1, .int .i64 r.key.k, .int .i64 r.key.n, .string r.key.s, .slice r.key.ao r.key.a.length r.key.cap, .int .i64 r.val.k, .int .i64 r.val.n, .string r.val.s, .slice r.val.ao r.val.a.length r.val.cap], .agg #[.string line, .string it, .slice wo ws.length wcap], .int .i64 kind] w _
 go_enter Tryz.func156,Tryz.ntmps156
 go_upto_region 1 with (fail)
 rw [←HW1.out,←HW2.out]
 have hb3:Below W2.heap.size W2 (W2.alloc (.cells #[.string ⟨#[]⟩, .int .i64 0] 202)):=(Below.refl _ _).alloc (Nat.le_refl _) _
 have HB3:=Aa (HB.out.trans (hb3.mono HB.out.size))
 have HBK3:=Aa (HBK.out.later hb3)
 have HBX3:=Aa (HBX.out.later hb3)
 have HBR3:Hid (Bk (W2.alloc (.cells #[.string ⟨#[]⟩, .int .i64 0] 202)) W2.heap.size [.string ⟨#[]⟩, .int .i64 0]):=Bk.new rfl
 rw [hz1] at HBX3
 rw [hz2] at HBR3
 clear hb3 HW1 HW2 HB HBK HBX hz1 hz2
 generalize W2.alloc (.cells #[.string ⟨#[]⟩, .int .i64 0] 202)=W3 at *
 have k0:=HBK3.out.get (j:=0) rfl
 have k1:=HBK3.out.get (j:=1) rfl
 have k2:=HBK3.out.get (j:=2) rfl
 have k3:=HBK3.out.get (j:=3) rfl
 have k4:=HBK3.out.get (j:=4) rfl
 have k5:=HBK3.out.get (j:=5) rfl
 have k6:=HBK3.out.get (j:=6) rfl
 have k7:=HBK3.out.get (j:=7) rfl
 have k8:=HBK3.out.get (j:=8) rfl
 have k9:=HBK3.out.get (j:=9) rfl
 have k10:=HBK3.out.get (j:=10) rfl
 have k11:=HBK3.out.get (j:=11) rfl
 have k12:=HBK3.out.get (j:=12) rfl
 have k13:=HBK3.out.get (j:=13) rfl
 have k14:=HBK3.out.get (j:=14) rfl
 have x0:=HBX3.out.get (j:=0) rfl
 have x1:=HBX3.out.get (j:=1) rfl
 have x2:=HBX3.out.get (j:=2) rfl
 by_cases h0:r.Bc=0
 ·have g0:(r.Bc !=0)=false:=by simpa using h0
  have HIF:Hid (ifR r.v line it ws=true):=by show _=_;unfold ifR;simp [Ao.v,h0]
  have q1:=cell_regrown k1
  refine wp_region_quiet_below (by kernel_rfl) (by kernel_rfl) ?_
  repeat (go_big_quiet_step (fail))
  refine wpQuiet_nil ?_
  intro _ hw'
  obtain⟨⟨dq,osq⟩,hw''⟩:=hw'
  subst hw''
  have hbg:=below_regrown W3 dq osq
  have HB4:=Aa (HB3.out.trans (hbg.mono HB3.out.size))
  have HBR4:=Aa (HBR3.out.later hbg)
  have HBK4:=Aa (HBK3.out.later hbg)
  have HBX4:=Aa (HBX3.out.later hbg)
  clear k0 k1 k2 k3 k4 k5 k6 k7 k8 k9 k10 k11 k12 k13 k14 x0 x1 x2 q1 hbg HSC
  generalize Go.Sort.grow (redrawn W3 dq) osq=W4 at *
  have k7':=HBK4.out.get (j:=7) rfl
  have k8':=HBK4.out.get (j:=8) rfl
  have k9':=HBK4.out.get (j:=9) rfl
  have k10':=HBK4.out.get (j:=10) rfl
  have x0':=HBX4.out.get (j:=0) rfl
  have x1':=HBX4.out.get (j:=1) rfl
  have x2':=HBX4.out.get (j:=2) rfl
  go_wp2_with fail
  refine(HSK.out _ HB4.out).mono ?_
  rintro e w5 ⟨rfl,b5⟩
  replace HB4:=Aa (HB4.out.trans (b5.mono HB4.out.size))
  replace HBR4:=Aa (HBR4.out.later b5)
  replace HBK4:=Aa (HBK4.out.later b5)
  replace HBX4:=Aa (HBX4.out.later b5)
  clear b5 HSK k7' k8' k9' k10' x0' x1' x2'
  go_upto_region 4 with (fail)
  have k11':=cell_regrown (HBK4.out.get (j:=11) rfl)
  have k12':=cell_regrown (HBK4.out.get (j:=12) rfl)
  have k13':=cell_regrown (HBK4.out.get (j:=13) rfl)
  have k14':=cell_regrown (HBK4.out.get (j:=14) rfl)
  have x0':=cell_regrown (HBX4.out.get (j:=0) rfl)
  have x1':=cell_regrown (HBX4.out.get (j:=1) rfl)
  have x2':=cell_regrown (HBX4.out.get (j:=2) rfl)
  have HPR:Hid (Ux r.v kind line it ws=(I4 (Ga r.key.tree line it ws),first kind (Kd r.val.tree line it ws))):=rfl
  obtain⟨ks,hks⟩:∃ ks,Ga r.key.tree line it ws=ks:=⟨_,rfl⟩
  obtain⟨vi,hvi⟩:∃ vi,Kd r.val.tree line it ws=vi:=⟨_,rfl⟩
  rw [hks,hvi] at HPR
  rw [hks]
  rw [hvi] at HSV
  clear hks hvi
  have m1:(0:Int)≤min (ks.size:Int) 20:=by omega
  have m2:min (ks.size:Int) 20≤(ks.size:Int):=by omega
  refine D3 12 (by kernel_rfl) (by kernel_rfl) ?_
  simp only [List.take_succ_cons,List.take_zero,List.drop_succ_cons,List.drop_zero]
  repeat (go_big_quiet_step (first | (go_at_call 185;exact Calls.regrown_of (HSV.out _ (HB4.out.trans ((below_regrown _ _ _).mono HB4.out.size)))) | (go_at_call 184;exact Is (Qc _ _ _))))
  refine wpQuiet_nil ?_
  intro _ hw'
  obtain⟨⟨dq,osq⟩,hw''⟩:=hw'
  subst hw''
  have hbg:=below_regrown w5 dq osq
  replace HB4:=Aa (HB4.out.trans (hbg.mono HB4.out.size))
  replace HBR4:=Aa (HBR4.out.later hbg)
  clear k11' k12' k13' k14' x0' x1' x2' HBK4 HBX4 hbg HSV m1 m2
  generalize Go.Sort.grow (redrawn w5 dq) osq=W6 at *
  have c0:=HBR4.out.get (j:=0) rfl
  have c1:=HBR4.out.get (j:=1) rfl
  have z0:=HBR4.out.fz 0
  have z1:=HBR4.out.fz 1
  have hk9:=(HBR4.out.set (k:=0) (u:= .string ⟨#[]⟩) (.string (ks.extract 0 (min (ks.size:Int) 20).toNat)) rfl).set (k:=1) (u:= .int .i64 0) (.int .i64 (first kind vi)) rfl
  have f0:=hk9.get (j:=0) rfl
  have f1:=hk9.get (j:=1) rfl
  have y0:=hk9.fz 0
  have y1:=hk9.fz 1
  have HB9:=Aa ((HB4.out.setCell (p:=⟨w.heap.size+1+1,0,none⟩) (by show w.heap.size≤w.heap.size+1+1;omega) (.string (ks.extract 0 (min (ks.size:Int) 20).toNat))).setCell (p:=⟨w.heap.size+1+1,1,none⟩) (by show w.heap.size≤w.heap.size+1+1;omega) (.int .i64 (first kind vi)))
  have HCU:Hid (ks.extract 0 (min (ks.size:Int) 20).toNat=I4 ks):=by show _=_;unfold I4;congr 1;omega
  clear hk9
  go_wp2
  exact bodyPost_ret (v:= .tuple #[.agg #[.string (ks.extract 0 (min (ks.size:Int) 20).toNat), .int .i64 (first kind vi)], .bool true]) (by simp [results,Tryz.results156,go_sem,f0,f1,y0,y1]) rfl ⟨⟨(I4 ks,first kind vi),by rw [HIF.out,HCU.out],fun _=> by rw [HPR.out]⟩,HB9.out⟩
 ·have g0:(r.Bc !=0)=true:=by simpa using h0
  have HC:=Aa fun w' hb=> HSC.out w' hb h0
  obtain⟨so,hso⟩:∃ so,Ga r.cond.tree line it ws=so:=⟨_,rfl⟩
  rw [hso] at HC
  have HIF0:Hid (ifR r.v line it ws=(decide (so=r.C1) ==decide (r.Bc=1))):=by
   show _=_
   unfold ifR
   rw [show(r.v.Bc ==0)=false from beq_eq_false_iff_ne.2 h0,show Ga r.v.cond line it ws=so from hso]
   rfl
  clear hso HSC h0
  by_cases his:so=r.C1
  ·have gi:(so.toList ==r.C1.toList)=true:=by rw [his];exact Ag1 _
   by_cases hon:r.Bc=1
   ·have go1:(r.Bc ==1)=true:=by simpa using hon
    have HIF:Hid (ifR r.v line it ws=true):=by show _=_;rw [HIF0.out];simp [his,hon]
    clear his hon HIF0
    have q1:=cell_regrown k1
    have q2:=cell_regrown k2
    have q3:=cell_regrown k3
    have q4:=cell_regrown k4
    have q5:=cell_regrown k5
    have q6:=cell_regrown k6
    have y0:=cell_regrown x0
    have y1:=cell_regrown x1
    have y2:=cell_regrown x2
    refine wp_region_quiet_below (by kernel_rfl) (by kernel_rfl) ?_
    repeat (go_big_quiet_step (first | (go_at_call 183;exact Calls.regrown_of (HC.out _ (HB3.out.trans ((below_regrown _ _ _).mono HB3.out.size))))))
    refine wpQuiet_nil ?_
    intro _ hw'
    obtain⟨⟨dq,osq⟩,hw''⟩:=hw'
    subst hw''
    have hbg:=below_regrown W3 dq osq
    have HB4:=Aa (HB3.out.trans (hbg.mono HB3.out.size))
    have HBR4:=Aa (HBR3.out.later hbg)
    have HBK4:=Aa (HBK3.out.later hbg)
    have HBX4:=Aa (HBX3.out.later hbg)
    clear q1 q2 q3 q4 q5 q6 y0 y1 y2 hbg
    generalize Go.Sort.grow (redrawn W3 dq) osq=W4 at *
    clear k0 k1 k2 k3 k4 k5 k6 k7 k8 k9 k10 k11 k12 k13 k14 x0 x1 x2 HC
    have k7':=HBK4.out.get (j:=7) rfl
    have k8':=HBK4.out.get (j:=8) rfl
    have k9':=HBK4.out.get (j:=9) rfl
    have k10':=HBK4.out.get (j:=10) rfl
    have x0':=HBX4.out.get (j:=0) rfl
    have x1':=HBX4.out.get (j:=1) rfl
    have x2':=HBX4.out.get (j:=2) rfl
    go_wp2_with fail
    refine(HSK.out _ HB4.out).mono ?_
    rintro e w5 ⟨rfl,b5⟩
    replace HB4:=Aa (HB4.out.trans (b5.mono HB4.out.size))
    replace HBR4:=Aa (HBR4.out.later b5)
    replace HBK4:=Aa (HBK4.out.later b5)
    replace HBX4:=Aa (HBX4.out.later b5)
    clear b5 HSK k7' k8' k9' k10' x0' x1' x2'
    go_upto_region 4 with (fail)
    have k11':=cell_regrown (HBK4.out.get (j:=11) rfl)
    have k12':=cell_regrown (HBK4.out.get (j:=12) rfl)
    have k13':=cell_regrown (HBK4.out.get (j:=13) rfl)
    have k14':=cell_regrown (HBK4.out.get (j:=14) rfl)
    have x0':=cell_regrown (HBX4.out.get (j:=0) rfl)
    have x1':=cell_regrown (HBX4.out.get (j:=1) rfl)
    have x2':=cell_regrown (HBX4.out.get (j:=2) rfl)
    have HPR:Hid (Ux r.v kind line it ws=(I4 (Ga r.key.tree line it ws),first kind (Kd r.val.tree line it ws))):=rfl
    obtain⟨ks,hks⟩:∃ ks,Ga r.key.tree line it ws=ks:=⟨_,rfl⟩
    obtain⟨vi,hvi⟩:∃ vi,Kd r.val.tree line it ws=vi:=⟨_,rfl⟩
    rw [hks,hvi] at HPR
    rw [hks]
    rw [hvi] at HSV
    clear hks hvi
    have m1:(0:Int)≤min (ks.size:Int) 20:=by omega
    have m2:min (ks.size:Int) 20≤(ks.size:Int):=by omega
    refine D3 12 (by kernel_rfl) (by kernel_rfl) ?_
    simp only [List.take_succ_cons,List.take_zero,List.drop_succ_cons,List.drop_zero]
    repeat (go_big_quiet_step (first | (go_at_call 185;exact Calls.regrown_of (HSV.out _ (HB4.out.trans ((below_regrown _ _ _).mono HB4.out.size)))) | (go_at_call 184;exact Is (Qc _ _ _))))
    refine wpQuiet_nil ?_
    intro _ hw'
    obtain⟨⟨dq,osq⟩,hw''⟩:=hw'
    subst hw''
    have hbg:=below_regrown w5 dq osq
    replace HB4:=Aa (HB4.out.trans (hbg.mono HB4.out.size))
    replace HBR4:=Aa (HBR4.out.later hbg)
    clear k11' k12' k13' k14' x0' x1' x2' HBK4 HBX4 hbg HSV m1 m2
    generalize Go.Sort.grow (redrawn w5 dq) osq=W6 at *
    have c0:=HBR4.out.get (j:=0) rfl
    have c1:=HBR4.out.get (j:=1) rfl
    have z0:=HBR4.out.fz 0
    have z1:=HBR4.out.fz 1
    have hk9:=(HBR4.out.set (k:=0) (u:= .string ⟨#[]⟩) (.string (ks.extract 0 (min (ks.size:Int) 20).toNat)) rfl).set (k:=1) (u:= .int .i64 0) (.int .i64 (first kind vi)) rfl
    have f0:=hk9.get (j:=0) rfl
    have f1:=hk9.get (j:=1) rfl
    have y0:=hk9.fz 0
    have y1:=hk9.fz 1
    have HB9:=Aa ((HB4.out.setCell (p:=⟨w.heap.size+1+1,0,none⟩) (by show w.heap.size≤w.heap.size+1+1;omega) (.string (ks.extract 0 (min (ks.size:Int) 20).toNat))).setCell (p:=⟨w.heap.size+1+1,1,none⟩) (by show w.heap.size≤w.heap.size+1+1;omega) (.int .i64 (first kind vi)))
    have HCU:Hid (ks.extract 0 (min (ks.size:Int) 20).toNat=I4 ks):=by show _=_;unfold I4;congr 1;omega
    clear hk9
    go_wp2
    exact bodyPost_ret (v:= .tuple #[.agg #[.string (ks.extract 0 (min (ks.size:Int) 20).toNat), .int .i64 (first kind vi)], .bool true]) (by simp [results,Tryz.results156,go_sem,f0,f1,y0,y1]) rfl ⟨⟨(I4 ks,first kind vi),by rw [HIF.out,HCU.out],fun _=> by rw [HPR.out]⟩,HB9.out⟩
   ·have go1:(r.Bc ==1)=false:=by simpa using hon
    have HIF:Hid (ifR r.v line it ws=false):=by show _=_;rw [HIF0.out];simp [his,hon]
    clear his hon HIF0
    have q1:=cell_regrown k1
    have q2:=cell_regrown k2
    have q3:=cell_regrown k3
    have q4:=cell_regrown k4
    have q5:=cell_regrown k5
    have q6:=cell_regrown k6
    have y0:=cell_regrown x0
    have y1:=cell_regrown x1
    have y2:=cell_regrown x2
    refine wp_region_quiet_below (by kernel_rfl) (by kernel_rfl) ?_
    repeat (go_big_quiet_step (first | (go_at_call 183;exact Calls.regrown_of (HC.out _ (HB3.out.trans ((below_regrown _ _ _).mono HB3.out.size))))))
    refine wpQuiet_nil ?_
    intro _ hw'
    obtain⟨⟨dq,osq⟩,hw''⟩:=hw'
    subst hw''
    have hbg:=below_regrown W3 dq osq
    have HB4:=Aa (HB3.out.trans (hbg.mono HB3.out.size))
    have HBR4:=Aa (HBR3.out.later hbg)
    have HBK4:=Aa (HBK3.out.later hbg)
    have HBX4:=Aa (HBX3.out.later hbg)
    clear q1 q2 q3 q4 q5 q6 y0 y1 y2 hbg
    generalize Go.Sort.grow (redrawn W3 dq) osq=W4 at *
    have c0:=HBR4.out.get (j:=0) rfl
    have c1:=HBR4.out.get (j:=1) rfl
    have z0:=HBR4.out.fz 0
    have z1:=HBR4.out.fz 1
    have hk9:=(HBR4.out.set (k:=0) (u:= .string ⟨#[]⟩) (.string ⟨#[]⟩) rfl).set (k:=1) (u:= .int .i64 0) (.int .i64 0) rfl
    have f0:=hk9.get (j:=0) rfl
    have f1:=hk9.get (j:=1) rfl
    have y0:=hk9.fz 0
    have y1:=hk9.fz 1
    have HB9:=Aa ((HB4.out.setCell (p:=⟨w.heap.size+1+1,0,none⟩) (by show w.heap.size≤w.heap.size+1+1;omega) (.string ⟨#[]⟩)).setCell (p:=⟨w.heap.size+1+1,1,none⟩) (by show w.heap.size≤w.heap.size+1+1;omega) (.int .i64 0))
    clear hk9 HC
    go_wp2
    exact bodyPost_ret (v:= .tuple #[.agg #[.string ⟨#[]⟩, .int .i64 0], .bool false]) (by simp [results,Tryz.results156,go_sem,f0,f1,y0,y1]) rfl ⟨⟨(⟨#[]⟩,0),by rw [HIF.out],fun h=> by rw [HIF.out] at h;cases h⟩,HB9.out⟩
  ·have gi:(so.toList ==r.C1.toList)=false:=Ag3 his
   by_cases hon:r.Bc=1
   ·have go1:(r.Bc ==1)=true:=by simpa using hon
    have HIF:Hid (ifR r.v line it ws=false):=by show _=_;rw [HIF0.out];simp [his,hon]
    clear his hon HIF0
    have q1:=cell_regrown k1
    have q2:=cell_regrown k2
    have q3:=cell_regrown k3
    have q4:=cell_regrown k4
    have q5:=cell_regrown k5
    have q6:=cell_regrown k6
    have y0:=cell_regrown x0
    have y1:=cell_regrown x1
    have y2:=cell_regrown x2
    refine wp_region_quiet_below (by kernel_rfl) (by kernel_rfl) ?_
    repeat (go_big_quiet_step (first | (go_at_call 183;exact Calls.regrown_of (HC.out _ (HB3.out.trans ((below_regrown _ _ _).mono HB3.out.size))))))
    refine wpQuiet_nil ?_
    intro _ hw'
    obtain⟨⟨dq,osq⟩,hw''⟩:=hw'
    subst hw''
    have hbg:=below_regrown W3 dq osq
    have HB4:=Aa (HB3.out.trans (hbg.mono HB3.out.size))
    have HBR4:=Aa (HBR3.out.later hbg)
    have HBK4:=Aa (HBK3.out.later hbg)
    have HBX4:=Aa (HBX3.out.later hbg)
    clear q1 q2 q3 q4 q5 q6 y0 y1 y2 hbg
    generalize Go.Sort.grow (redrawn W3 dq) osq=W4 at *
    have c0:=HBR4.out.get (j:=0) rfl
    have c1:=HBR4.out.get (j:=1) rfl
    have z0:=HBR4.out.fz 0
    have z1:=HBR4.out.fz 1
    have hk9:=(HBR4.out.set (k:=0) (u:= .string ⟨#[]⟩) (.string ⟨#[]⟩) rfl).set (k:=1) (u:= .int .i64 0) (.int .i64 0) rfl
    have f0:=hk9.get (j:=0) rfl
    have f1:=hk9.get (j:=1) rfl
    have y0:=hk9.fz 0
    have y1:=hk9.fz 1
    have HB9:=Aa ((HB4.out.setCell (p:=⟨w.heap.size+1+1,0,none⟩) (by show w.heap.size≤w.heap.size+1+1;omega) (.string ⟨#[]⟩)).setCell (p:=⟨w.heap.size+1+1,1,none⟩) (by show w.heap.size≤w.heap.size+1+1;omega) (.int .i64 0))
    clear hk9 HC
    go_wp2
    exact bodyPost_ret (v:= .tuple #[.agg #[.string ⟨#[]⟩, .int .i64 0], .bool false]) (by simp [results,Tryz.results156,go_sem,f0,f1,y0,y1]) rfl ⟨⟨(⟨#[]⟩,0),by rw [HIF.out],fun h=> by rw [HIF.out] at h;cases h⟩,HB9.out⟩
   ·have go1:(r.Bc ==1)=false:=by simpa using hon
    have HIF:Hid (ifR r.v line it ws=true):=by show _=_;rw [HIF0.out];simp [his,hon]
    clear his hon HIF0
    have q1:=cell_regrown k1
    have q2:=cell_regrown k2
    have q3:=cell_regrown k3
    have q4:=cell_regrown k4
    have q5:=cell_regrown k5
    have q6:=cell_regrown k6
    have y0:=cell_regrown x0
    have y1:=cell_regrown x1
    have y2:=cell_regrown x2
    refine wp_region_quiet_below (by kernel_rfl) (by kernel_rfl) ?_
    repeat (go_big_quiet_step (first | (go_at_call 183;exact Calls.regrown_of (HC.out _ (HB3.out.trans ((below_regrown _ _ _).mono HB3.out.size))))))
    refine wpQuiet_nil ?_
    intro _ hw'
    obtain⟨⟨dq,osq⟩,hw''⟩:=hw'
    subst hw''
    have hbg:=below_regrown W3 dq osq
    have HB4:=Aa (HB3.out.trans (hbg.mono HB3.out.size))
    have HBR4:=Aa (HBR3.out.later hbg)
    have HBK4:=Aa (HBK3.out.later hbg)
    have HBX4:=Aa (HBX3.out.later hbg)
    clear q1 q2 q3 q4 q5 q6 y0 y1 y2 hbg
    generalize Go.Sort.grow (redrawn W3 dq) osq=W4 at *
    clear k0 k1 k2 k3 k4 k5 k6 k7 k8 k9 k10 k11 k12 k13 k14 x0 x1 x2 HC
    have k7':=HBK4.out.get (j:=7) rfl
    have k8':=HBK4.out.get (j:=8) rfl
    have k9':=HBK4.out.get (j:=9) rfl
    have k10':=HBK4.out.get (j:=10) rfl
    have x0':=HBX4.out.get (j:=0) rfl
    have x1':=HBX4.out.get (j:=1) rfl
    have x2':=HBX4.out.get (j:=2) rfl
    go_wp2_with fail
    refine(HSK.out _ HB4.out).mono ?_
    rintro e w5 ⟨rfl,b5⟩
    replace HB4:=Aa (HB4.out.trans (b5.mono HB4.out.size))
    replace HBR4:=Aa (HBR4.out.later b5)
    replace HBK4:=Aa (HBK4.out.later b5)
    replace HBX4:=Aa (HBX4.out.later b5)
    clear b5 HSK k7' k8' k9' k10' x0' x1' x2'
    go_upto_region 4 with (fail)
    have k11':=cell_regrown (HBK4.out.get (j:=11) rfl)
    have k12':=cell_regrown (HBK4.out.get (j:=12) rfl)
    have k13':=cell_regrown (HBK4.out.get (j:=13) rfl)
    have k14':=cell_regrown (HBK4.out.get (j:=14) rfl)
    have x0':=cell_regrown (HBX4.out.get (j:=0) rfl)
    have x1':=cell_regrown (HBX4.out.get (j:=1) rfl)
    have x2':=cell_regrown (HBX4.out.get (j:=2) rfl)
    have HPR:Hid (Ux r.v kind line it ws=(I4 (Ga r.key.tree line it ws),first kind (Kd r.val.tree line it ws))):=rfl
    obtain⟨ks,hks⟩:∃ ks,Ga r.key.tree line it ws=ks:=⟨_,rfl⟩
    obtain⟨vi,hvi⟩:∃ vi,Kd r.val.tree line it ws=vi:=⟨_,rfl⟩
    rw [hks,hvi] at HPR
    rw [hks]
    rw [hvi] at HSV
    clear hks hvi
    have m1:(0:Int)≤min (ks.size:Int) 20:=by omega
    have m2:min (ks.size:Int) 20≤(ks.size:Int):=by omega
    refine D3 12 (by kernel_rfl) (by kernel_rfl) ?_
    simp only [List.take_succ_cons,List.take_zero,List.drop_succ_cons,List.drop_zero]
    repeat (go_big_quiet_step (first | (go_at_call 185;exact Calls.regrown_of (HSV.out _ (HB4.out.trans ((below_regrown _ _ _).mono HB4.out.size)))) | (go_at_call 184;exact Is (Qc _ _ _))))
    refine wpQuiet_nil ?_
    intro _ hw'
    obtain⟨⟨dq,osq⟩,hw''⟩:=hw'
    subst hw''
    have hbg:=below_regrown w5 dq osq
    replace HB4:=Aa (HB4.out.trans (hbg.mono HB4.out.size))
    replace HBR4:=Aa (HBR4.out.later hbg)
    clear k11' k12' k13' k14' x0' x1' x2' HBK4 HBX4 hbg HSV m1 m2
    generalize Go.Sort.grow (redrawn w5 dq) osq=W6 at *
    have c0:=HBR4.out.get (j:=0) rfl
    have c1:=HBR4.out.get (j:=1) rfl
    have z0:=HBR4.out.fz 0
    have z1:=HBR4.out.fz 1
    have hk9:=(HBR4.out.set (k:=0) (u:= .string ⟨#[]⟩) (.string (ks.extract 0 (min (ks.size:Int) 20).toNat)) rfl).set (k:=1) (u:= .int .i64 0) (.int .i64 (first kind vi)) rfl
    have f0:=hk9.get (j:=0) rfl
    have f1:=hk9.get (j:=1) rfl
    have y0:=hk9.fz 0
    have y1:=hk9.fz 1
    have HB9:=Aa ((HB4.out.setCell (p:=⟨w.heap.size+1+1,0,none⟩) (by show w.heap.size≤w.heap.size+1+1;omega) (.string (ks.extract 0 (min (ks.size:Int) 20).toNat))).setCell (p:=⟨w.heap.size+1+1,1,none⟩) (by show w.heap.size≤w.heap.size+1+1;omega) (.int .i64 (first kind vi)))
    have HCU:Hid (ks.extract 0 (min (ks.size:Int) 20).toNat=I4 ks):=by show _=_;unfold I4;congr 1;omega
    clear hk9
    go_wp2
    exact bodyPost_ret (v:= .tuple #[.agg #[.string (ks.extract 0 (min (ks.size:Int) 20).toNat), .int .i64 (first kind vi)], .bool true]) (by simp [results,Tryz.results156,go_sem,f0,f1,y0,y1]) rfl ⟨⟨(I4 ks,first kind vi),by rw [HIF.out,HCU.out],fun _=> by rw [HPR.out]⟩,HB9.out⟩
end Go.Proofs.YtbibeionenjmfaaGreatDoor
namespace Go.Proofs.YtbibeionenjmfaaGreatDoor
open Go.RowKit
theorem O0 {line:ByteArray} (h:line.size≤500):(A7 line).length≤501∧∀ x∈A7 line,x.size≤1000:=by
 rw [X9,List.length_map]
 have h3:=Fw line
 constructor
 ·have:=Ya line.data.toList
  omega
 ·intro x hx
  obtain⟨l,hl,rfl⟩:=List.mem_map.1 hx
  rw [Am]
  have:=(Aiw hl).2.1
  omega
theorem Akd {α β:Type} {f:α→Option β} {l:List α} {k:Nat} {x:α} (h:l[k]?=some x):(l.take (k+1)).filterMap f=(l.take k).filterMap f++(f x).toList:=by
 obtain⟨hlt,hx⟩:=List.getElem?_eq_some_iff.1 h
 rw [List.take_succ_eq_append_getElem hlt,hx,List.filterMap_append]
 cases h2:f x <;> simp [h2]
theorem Ir (rs:List Aw) (kind:Int) (line:ByteArray) (h:line.size≤500):(Fm rs kind line).length≤rs.length * 502:=by
 unfold Fm
 induction rs with
 | nil=> simp
 | cons r rs ih=>
   rw [List.flatMap_cons,List.length_append,List.length_cons,Nat.succ_mul]
   have h1:=Uy r kind line
   have h3:=(O0 h).1
   omega
structure MIn (w1 wr:World) (xb rb:Nat) (r:Ao) (line:ByteArray) (wo:Option Addr) (wn wcap:Nat) (so:Option Addr) (its:List ByteArray) (v:Value) (l:List Pr):Prop where
 own:Own 2 Bt 202 wr (xb+1) v l
 rcd:∃ it,Bk wr xb [.string line, .string it, .slice wo wn wcap]
 Y9:Bk wr rb (A6 r)
 sl:Sl 1 Cm wr so its
 E5:Below xb w1 wr
 apart:∀ q,v.ownBlock=some q→q≠rb∧∀ b o,so=some ⟨b,o,none⟩→q≠b
 so_:∀ b o,so=some ⟨b,o,none⟩→b≠xb∧b < wr.heap.size
 ne:rb≠xb
 size:xb < wr.heap.size
set_option maxRecDepth 100000 in
set_option maxHeartbeats 4000000 in
theorem Agq (ro:Option Addr) (rc:Nat) (rs:List Ao) (fold slices:Int) (early:Bool) (line:ByteArray) (d:Nat) (w:World) (hg:GM w) (hl:rs.length≤1000) (hline:line.size≤500) (hs:Sl 15 A6 w ro rs) (hr:∀ r∈rs,Ka w d r) (hok:∀ r∈rs,Gz r.v):
 Calls Tryz.prog 118 #[.agg #[.slice ro rs.length rc, .int .i64 fold, .bool early, .int .i64 slices], .string line] w fun e w'=> ∃ v,e= .returned v∧Own 2 Bt 202 w' w.heap.size v (Fm (rs.map Ao.v) fold line)∧Below w.heap.size w w':=by
 obtain⟨i0,hi0,hz0,hz1,hz2⟩:=info_parts Ks
 obtain⟨W1,hW1⟩:∃ W,W=w.alloc (.cells #[.slice ro rs.length rc, .int .i64 fold, .bool early, .int .i64 slices] 96):=⟨_,rfl⟩
 have hb1:Below w.heap.size w W1:=by rw [hW1];exact(Below.refl _ _).alloc (Nat.le_refl _) _
 have hbj:Bk W1 w.heap.size [.slice ro rs.length rc, .int .i64 fold, .bool early, .int .i64 slices]:=by rw [hW1];exact Bk.new rfl
 have HX:=Aa (Aof line W1 (hg.later hb1 (Nat.le_refl _)) (by omega))
 have HR:=Aa hr
 have HOK:=Aa hok
 have HS:=Aa hs
 have HWL:=Aa (O0 hline)
 have HPS:=Aa (Ir (rs.map Ao.v) fold line hline)
 have HLI:=Aa hline
 have HW1:=Aa hW1
 have HB1:=Aa hb1
 have HBJ:=Aa hbj
 clear hr hok hs hline hW1 hb1 hbj hg
 go_enter Tryz.func118,Tryz.ntmps118
 go_upto_region 1 with (fail)
 rw [←HW1.out]
 clear HW1
 go_wp2_with fail
 refine HX.out.mono ?_
 rintro e w2 ⟨wv,rfl,ho,b2⟩
 obtain⟨wo,wcap,rfl⟩:=id ho.1
 clear HX
 have HB2:=Aa (HB1.out.trans (b2.mono HB1.out.size))
 have HBJ2:=Aa (HBJ.out.later b2)
 have HWS:=Aa (ho.sl Cc)
 have HWB:Hid (∀ b o,wo=some ⟨b,o,none⟩→b < w2.heap.size):=fun b o e=> (ho.lt b (by subst e;rfl)).2
 have HJL:=Aa HBJ2.out.lt
 clear HB1 HBJ ho b2
 go_upto_region 2 with (fail)
 have hba:Below w2.heap.size w2 (w2.alloc (.cells #[.string line, .string ⟨#[]⟩, .slice wo (A7 line).length wcap] 246)):=(Below.refl _ _).alloc (Nat.le_refl _) _
 obtain⟨W3,hW3⟩:∃ W,W=w2.alloc (.cells #[.string line, .string ⟨#[]⟩, .slice wo (A7 line).length wcap] 246):=⟨_,rfl⟩
 have hr0:Bk W3 w2.heap.size [.string line, .string ⟨#[]⟩, .slice wo (A7 line).length wcap]:=by rw [hW3];exact Bk.new rfl
 rw [←hW3]
 rw [←hW3] at hba
 clear hW3
 have j0:=(HBJ2.out.later hba).get (j:=0) rfl
 go_wp2
 clear j0
 have HSZ:Hid (w2.heap.size < W3.heap.size):=hr0.lt
 go_loopw [6,19] (fun v i wr=> ∃ k:Nat,k≤rs.length∧i= .int .i64 k∧Hid (Own 2 Bt 202 wr (w2.heap.size+1) v (Fm ((rs.map Ao.v).take k) fold line))∧Hid (Bk wr w2.heap.size [.string line, .string ⟨#[]⟩, .slice wo (A7 line).length wcap])∧Hid (Below w2.heap.size w2 wr)) (fun _ i _=> rs.length - (intOf i).toNat)
 case atStart=> exact⟨0,by omega,by go_num,Own.nil,hr0,hba⟩
 case round=>
  obtain⟨k,hk,rfl,HOW,HRC,HBE⟩:=hrel
  clear hr0 hba HSZ
  have HBW:=Aa (HB2.out.trans (HBE.out.mono HB2.out.size))
  by_cases hlt:k < rs.length
  ·obtain⟨b,off,r,rfl,hbw,hlk,hc⟩:=(HS.out.later HBW.out (Nat.le_refl _)).Y9 hlt
   have HRA:=Aa (HR.out r (List.mem_of_getElem? hlk))
   have HRO:=Aa (HOK.out r (List.mem_of_getElem? hlk))
   have HSU:=Aa (Abp fold line (show(rs.map Ao.v)[k]?=some r.v by rw [List.getElem?_map,hlk];rfl))
   have HLT:Hid ((Fm ((rs.map Ao.v).take k) fold line).length≤1000000):=by
    have h1:=Ir ((rs.map Ao.v).take k) fold line HLI.out
    have h2:((rs.map Ao.v).take k).length≤1000:=by rw [List.length_take,List.length_map];omega
    have h3:=Nat.mul_le_mul_right 502 h2
    show _≤_
    omega
   generalize Fm ((rs.map Ao.v).take k) fold line=acc at *
   have k0:wr.cell? ⟨b,off+k * 15,none⟩=some (.bool r.each):=hc 0 _ rfl
   have k1:=hc 1 _ rfl
   have k2:=hc 2 _ rfl
   have k3:=hc 3 _ rfl
   have k4:=hc 4 _ rfl
   have k5:=hc 5 _ rfl
   have k6:=hc 6 _ rfl
   have k7:=hc 7 _ rfl
   have k8:=hc 8 _ rfl
   have k9:=hc 9 _ rfl
   have k10:=hc 10 _ rfl
   have k11:=hc 11 _ rfl
   have k12:=hc 12 _ rfl
   have k13:=hc 13 _ rfl
   have k14:=hc 14 _ rfl
   have f1:(0:Int)≤(k:Int)∧(k:Int) < (rs.length:Int):=by omega
   obtain⟨f1,f2⟩:=f1
   clear hlk hc
   go_upto_region 6 with (fail)
   have hbA:Below wr.heap.size wr ((wr.alloc (.cells #[.bool r.each, .int .i64 r.Bc, .int .i64 r.cond.k, .int .i64 r.cond.n, .string r.cond.s, .slice r.cond.ao r.cond.a.length r.cond.cap, .string r.C1, .int .i64 r.key.k, .int .i64 r.key.n, .string r.key.s, .slice r.key.ao r.key.a.length r.key.cap, .int .i64 r.val.k, .int .i64 r.val.n, .string r.val.s, .slice r.val.ao r.val.a.length r.val.cap] 193)).alloc (.cells #[.string ⟨#[]⟩] 9)):=((Below.refl _ _).alloc (Nat.le_refl _) _).alloc (by simp) _
   have hru:Bk ((wr.alloc (.cells #[.bool r.each, .int .i64 r.Bc, .int .i64 r.cond.k, .int .i64 r.cond.n, .string r.cond.s, .slice r.cond.ao r.cond.a.length r.cond.cap, .string r.C1, .int .i64 r.key.k, .int .i64 r.key.n, .string r.key.s, .slice r.key.ao r.key.a.length r.key.cap, .int .i64 r.val.k, .int .i64 r.val.n, .string r.val.s, .slice r.val.ao r.val.a.length r.val.cap] 193)).alloc (.cells #[.string ⟨#[]⟩] 9)) wr.heap.size (A6 r):=Bk.alloc (Bk.new rfl) _
   have hlit:Sl 1 Cm ((wr.alloc (.cells #[.bool r.each, .int .i64 r.Bc, .int .i64 r.cond.k, .int .i64 r.cond.n, .string r.cond.s, .slice r.cond.ao r.cond.a.length r.cond.cap, .string r.C1, .int .i64 r.key.k, .int .i64 r.key.n, .string r.key.s, .slice r.key.ao r.key.a.length r.key.cap, .int .i64 r.val.k, .int .i64 r.val.n, .string r.val.s, .slice r.val.ao r.val.a.length r.val.cap] 193)).alloc (.cells #[.string ⟨#[]⟩] 9)) (some ⟨wr.heap.size+1,0,none⟩) [⟨#[]⟩]:=Sl.lit Cc (Pd (by simp)) rfl
   have hsz2:((wr.alloc (.cells #[.bool r.each, .int .i64 r.Bc, .int .i64 r.cond.k, .int .i64 r.cond.n, .string r.cond.s, .slice r.cond.ao r.cond.a.length r.cond.cap, .string r.C1, .int .i64 r.key.k, .int .i64 r.key.n, .string r.key.s, .slice r.key.ao r.key.a.length r.key.cap, .int .i64 r.val.k, .int .i64 r.val.n, .string r.val.s, .slice r.val.ao r.val.a.length r.val.cap] 193)).alloc (.cells #[.string ⟨#[]⟩] 9)).heap.size=wr.heap.size+1+1:=by simp
   clear k0 k1 k2 k3 k4 k5 k6 k7 k8 k9 k10 k11 k12 k13 k14
   have HRU:=Aa hru
   have HOW6:=Aa (HOW.out.later hbA)
   have HRC6:=Aa (HRC.out.later hbA)
   have HBE6:=Aa (HBE.out.trans (hbA.mono HBE.out.size))
   have HUB:Hid (∀ q,u6.ownBlock=some q→w2.heap.size+1≤q∧q < wr.heap.size):=HOW.out.lt
   have HXB:=Aa HRC.out.lt
   have HSB6:=Aa hbA.size
   clear hru hbA HOW HRC HBE HBW
   go_upto_region 7 with (fail)
   generalize (wr.alloc (.cells #[.bool r.each, .int .i64 r.Bc, .int .i64 r.cond.k, .int .i64 r.cond.n, .string r.cond.s, .slice r.cond.ao r.cond.a.length r.cond.cap, .string r.C1, .int .i64 r.key.k, .int .i64 r.key.n, .string r.key.s, .slice r.key.ao r.key.a.length r.key.cap, .int .i64 r.val.k, .int .i64 r.val.n, .string r.val.s, .slice r.val.ao r.val.a.length r.val.cap] 193)).alloc (.cells #[.string ⟨#[]⟩] 9)=W6 at *
   have e0:=HRU.out.get (j:=0) rfl
   obtain⟨ec,hec⟩:∃ ec,r.each=ec:=⟨_,rfl⟩
   rw [hec] at e0
   have HEC:=Aa hec
   have HLIT:=Aa hlit
   clear hec hlit
   go_upto_if 25 with (fail)
   go_cut [9] from 26 to 27 (fun v wc=> ∃ (so:Option Addr) (its:List ByteArray) (sc:Nat),v= .slice so its.length sc∧Hid (Yr r.v (A7 line)=its)∧Hid (Sl 1 Cm W6 so its)∧Hid (∀ b o,so=some ⟨b,o,none⟩→b≠w2.heap.size∧b < W6.heap.size)∧Hid (∀ q,u6.ownBlock=some q→q≠wr.heap.size∧∀ b o,so=some ⟨b,o,none⟩→q≠b)∧Hid (its.length≤501∧∀ x∈its,x.size≤1000)∧W6=wc)
   case first=>
    rcases Bool.eq_false_or_eq_true ec with he | he
    ·have x2:=HRC6.out.get (j:=2) rfl
     have HIT:Hid (Yr r.v (A7 line)=A7 line):=by show _=_;unfold Yr;rw [if_pos (show r.v.each=true from HEC.out.trans he)]
     have HSO:=Aa (HWS.out.later HBE6.out (Nat.le_refl _))
     have HSB:Hid (∀ b o,wo=some ⟨b,o,none⟩→b≠w2.heap.size∧b < W6.heap.size):=fun b o e=> by
      have h1:=HWB.out b o e
      have h2:=HBE6.out.size
      have h3:=HXB.out
      exact⟨by omega,by omega⟩
     have HAP:Hid (∀ q,u6.ownBlock=some q→q≠wr.heap.size∧∀ b o,wo=some ⟨b,o,none⟩→q≠b):=fun q hq=> by
      have h1:=HUB.out q hq
      exact⟨by omega,fun b o e=> by have:=HWB.out b o e;omega⟩
     clear HUB
     subst he
     go_wp2
     go_meet
     exact⟨_,_,_,rfl,HIT,HSO,HSB,HAP,HWL,rfl⟩
    ·have HIT:Hid (Yr r.v (A7 line)= [⟨#[]⟩]):=by show _=_;unfold Yr;rw [if_neg (show ¬ r.v.each=true by rw [show r.v.each=ec from HEC.out,he];simp)]
     have HSB:Hid (∀ b o,(some ⟨wr.heap.size+1,0,none⟩:Option Addr)=some ⟨b,o,none⟩→b≠w2.heap.size∧b < W6.heap.size):=fun b o e=> by
      cases e
      have h3:=HXB.out
      exact⟨by omega,by omega⟩
     have HAP:Hid (∀ q,u6.ownBlock=some q→q≠wr.heap.size∧∀ b o,(some ⟨wr.heap.size+1,0,none⟩:Option Addr)=some ⟨b,o,none⟩→q≠b):=fun q hq=> by
      have h1:=HUB.out q hq
      exact⟨by omega,fun b o e=> by cases e;omega⟩
     have HIL:Hid (([⟨#[]⟩]:List ByteArray).length≤501∧∀ x∈([⟨#[]⟩]:List ByteArray),x.size≤1000):=⟨by simp,fun x hx=> by rw [List.mem_singleton.1 hx];decide⟩
     clear HUB
     subst he
     go_wp2
     go_meet
     exact⟨_, [⟨#[]⟩],_,rfl,HIT,HLIT,HSB,HAP,HIL,rfl⟩
   case rest=>
    obtain⟨so,its,sc,rfl,HIT,HSO,HSB,HAP,HIL,rfl⟩:=hcut
    clear HLIT e0 HEC HUB
    have HIN:Hid (MIn w2 W6 w2.heap.size wr.heap.size r line wo (A7 line).length wcap so its u6 acc):=by
     have h1:=HXB.out
     exact⟨HOW6.out,⟨_,HRC6.out⟩,HRU.out,HSO.out,HBE6.out,HAP.out,HSB.out,by omega,by have:=HSB6.out;omega⟩
    have HMA:Hid (Oo r.v fold line=its.filterMap (Jc r.v fold line (A7 line))):=by show _=_;unfold Oo;rw [HIT.out]
    clear HOW6 HRC6 HRU HSO HBE6 HAP HSB HIT
    obtain⟨wb,hwb⟩:∃ wb,wb=wr.heap.size:=⟨_,rfl⟩
    rw [←hwb] at HIN ⊢
    clear hwb
    go_wp2
    go_loopw [6,30] (fun v i wi=> ∃ m:Nat,m≤its.length∧i= .int .i64 m∧Hid (MIn w2 wi w2.heap.size wb r line wo (A7 line).length wcap so its v (acc++(its.take m).filterMap (Jc r.v fold line (A7 line))))) (fun _ i _=> its.length - (intOf i).toNat)
    case atStart=> exact⟨0,by omega,by go_num,by simpa using HIN⟩
    case round=>
     clear HIN
     obtain⟨m,hm,rfl,HIN⟩:=hrel
     by_cases hlt2:m < its.length
     ·obtain⟨b2,o2,it,rfl,hbw2,hlk2,c0⟩:=HIN.out.sl.str hlt2
      obtain⟨it0,hr0⟩:=HIN.out.rcd
      have HIS:=Aa (HIL.out.2 it (List.mem_of_getElem? hlk2))
      have HST:Hid (acc++(its.take (m+1)).filterMap (Jc r.v fold line (A7 line))=(acc++(its.take m).filterMap (Jc r.v fold line (A7 line)))++(Jc r.v fold line (A7 line) it).toList):=by
       show _=_
       rw [Akd (f:=Jc r.v fold line (A7 line)) hlk2,List.append_assoc]
      have HML:Hid ((acc++(its.take m).filterMap (Jc r.v fold line (A7 line))).length≤2000000):=by
       have h1:=List.length_filterMap_le (Jc r.v fold line (A7 line)) (its.take m)
       have h2:(its.take m).length≤501:=by rw [List.length_take];have:=HIL.out.1;omega
       have h3:=HLT.out
       show _≤_
       rw [List.length_append]
       omega
      generalize acc++(its.take m).filterMap (Jc r.v fold line (A7 line))=am at *
      have hil:=HIL.out.1
      have x1:=hr0.get (j:=1) rfl
      have z1:=hr0.fz 1
      have f1:(0:Int)≤(m:Int)∧(m:Int) < (its.length:Int):=by omega
      obtain⟨f1,f2⟩:=f1
      have HR0:=Aa hr0
      clear hlk2 hr0
      go_upto_region 13 with (fail)
      have HRC7:Hid (Bk (wr.setCell ⟨w2.heap.size,1,none⟩ (.string it)) w2.heap.size [.string line, .string it, .slice wo (A7 line).length wcap]):=HR0.out.set (k:=1) (u:= .string it0) (.string it) rfl
      have HRU7:=Aa (HIN.out.Y9.Gx (p:=⟨w2.heap.size,1,none⟩) (fun e=> HIN.out.ne e.symm) (.string it))
      have HOW7:=Aa (HIN.out.own.setOther (a:=⟨w2.heap.size,1,none⟩) (fun e=> absurd (show w2.heap.size+1≤w2.heap.size from(HIN.out.own.lt _ e).1) (by omega)) (.string it))
      have HSO7:=Aa (HIN.out.sl.kept ((Ab.refl (fun q=> q=w2.heap.size) wr).setCell (p:=⟨w2.heap.size,1,none⟩) rfl (.string it)) (fun b o e=> (HIN.out.so_ b o e).1))
      have HBE7:=Aa (HIN.out.E5.setCell (p:=⟨w2.heap.size,1,none⟩) (Nat.le_refl _) (.string it))
      have HAP:=Aa HIN.out.apart
      have HSB:Hid (∀ b o,some ⟨b2,o2,none⟩=some (⟨b,o,none⟩:Addr)→b≠w2.heap.size∧b < (wr.setCell ⟨w2.heap.size,1,none⟩ (.string it)).heap.size):=fun b o e=> by
       have h1:=HIN.out.so_ b o e
       exact⟨h1.1,by simpa [World.setCell] using h1.2⟩
      have HNE:=Aa HIN.out.ne
      have HSZ7:Hid (w2.heap.size < (wr.setCell ⟨w2.heap.size,1,none⟩ (.string it)).heap.size):=by
       have:=HIN.out.size
       show _ < _
       simpa [World.setCell] using this
      clear HIN HR0 x1 z1 c0
      generalize wr.setCell ⟨w2.heap.size,1,none⟩ (.string it)=W7 at *
      have HBW7:=Aa (HB2.out.trans (HBE7.out.mono HB2.out.size))
      have k0:=HRU7.out.get (j:=0) rfl
      have k1:=HRU7.out.get (j:=1) rfl
      have k2:=HRU7.out.get (j:=2) rfl
      have k3:=HRU7.out.get (j:=3) rfl
      have k4:=HRU7.out.get (j:=4) rfl
      have k5:=HRU7.out.get (j:=5) rfl
      have k6:=HRU7.out.get (j:=6) rfl
      have k7:=HRU7.out.get (j:=7) rfl
      have k8:=HRU7.out.get (j:=8) rfl
      have k9:=HRU7.out.get (j:=9) rfl
      have k10:=HRU7.out.get (j:=10) rfl
      have k11:=HRU7.out.get (j:=11) rfl
      have k12:=HRU7.out.get (j:=12) rfl
      have k13:=HRU7.out.get (j:=13) rfl
      have k14:=HRU7.out.get (j:=14) rfl
      have x0:=HRC7.out.get (j:=0) rfl
      have x1:=HRC7.out.get (j:=1) rfl
      have x2:=HRC7.out.get (j:=2) rfl
      have j1:W7.cell? ⟨w.heap.size,1,none⟩=some (.int .i64 fold):=by
       rw [HBE7.out.cell (p:=⟨w.heap.size,1,none⟩) HJL.out]
       exact HBJ2.out.get (j:=1) rfl
      have HON:=Aa (Ane r d line it wo wcap (A7 line) fold W7 (HRA.out.later HBW7.out (Nat.le_refl _)) HRO.out (by have:=HLI.out;omega) HIS.out HWL.out.2 (by have:=HWL.out.1;omega) (HWS.out.later HBE7.out (Nat.le_refl _)))
      unfold Ao.agg at HON
      go_wp2_with fail
      refine HON.out.mono ?_
      rintro e w8 ⟨⟨p,rfl,hpp⟩,b8⟩
      obtain⟨pk,pv⟩:=p
      clear k0 k1 k2 k3 k4 k5 k6 k7 k8 k9 k10 k11 k12 k13 k14 x0 x1 x2 j1 HON
      have HML2:=HML
      have HRC8:=Aa (HRC7.out.later b8)
      have HRU8:=Aa (HRU7.out.later b8)
      have HOW8:=Aa (HOW7.out.later b8)
      have HSO8:=Aa (HSO7.out.later b8 (Nat.le_refl _))
      have HBE8:=Aa (HBE7.out.trans (b8.mono HBE7.out.size))
      have HUB8:Hid (∀ q,u6.ownBlock=some q→q < w8.heap.size):=fun q hq=> (HOW8.out.lt q hq).2
      have HPP:=Aa hpp
      have hz8:=b8.size
      have HSZ8:Hid (w2.heap.size < w8.heap.size):=Nat.lt_of_lt_of_le HSZ7.out hz8
      have HSB8:Hid (∀ b o,some ⟨b2,o2,none⟩=some (⟨b,o,none⟩:Addr)→b≠w2.heap.size∧b < w8.heap.size):=fun b o e=> ⟨(HSB.out b o e).1,Nat.lt_of_lt_of_le (HSB.out b o e).2 hz8⟩
      have HWB8:Hid (wb < w8.heap.size):=HRU8.out.lt
      clear HRC7 HRU7 HOW7 HSO7 HBE7 HSB b8 hpp HBW7 HSZ7 hz8
      by_cases his:ifR r.v line it (A7 line)=true
      ·have HP2:=Aa (HPP.out his)
       have HMD:Hid (Jc r.v fold line (A7 line) it=some (Ux r.v fold line it (A7 line))):=by show _=_;unfold Jc;rw [if_pos his]
       rw [his]
       have HON2:Hid (Own 2 Bt 202 ((w8.alloc (.cells #[.string pk, .int .i64 pv] 202)).alloc (.cells #[.string pk, .int .i64 pv] 202)) (w2.heap.size+1) u6 am):=(HOW8.out.alloc _).alloc _
       obtain⟨ua,uc,hu6⟩:=id HON2.out.1
       subst hu6
       have hlen:am.length+1≤1000000000:=by have:=HML.out;omega
       have hB2:w2.heap.size+1≤((w8.alloc (.cells #[.string pk, .int .i64 pv] 202)).alloc (.cells #[.string pk, .int .i64 pv] 202)).heap.size:=by have:=HSZ8.out;simp;omega
       have HB22:=Aa hB2
       have HLEN:=Aa hlen
       clear his HPP hlen hB2
       go_wp2_with (at_builtin;refine Bi Bn _ _ 157 i0 _ rfl rfl Tryz.underlying157 hi0 hz0 hz1 hz2 rfl (by decide) (by decide) HON2.out (Below.refl _ _) HB22.out HLEN.out rfl (pk,pv) ⟨w8.heap.size+1,0,none⟩ 1 rfl (Fc ?c3 rfl) ?c4 ?_)
       case c3=> simp
       case c4=> exact Kx _
       intro v' w1 hown1 hb1 hgr hat
       have hba:Below w8.heap.size w8 ((w8.alloc (.cells #[.string pk, .int .i64 pv] 202)).alloc (.cells #[.string pk, .int .i64 pv] 202)):=((Below.refl _ _).alloc (Nat.le_refl _) _).alloc (by simp) _
       have hzz:((w8.alloc (.cells #[.string pk, .int .i64 pv] 202)).alloc (.cells #[.string pk, .int .i64 pv] 202)).heap.size=w8.heap.size+1+1:=by simp
       have hkb:Ab (fun q=> (Value.slice ua am.length uc).ownBlock=some q) ((w8.alloc (.cells #[.string pk, .int .i64 pv] 202)).alloc (.cells #[.string pk, .int .i64 pv] 202)) w1:=Ab.A9 hgr fun q e=> e
       have HIN2:Hid (MIn w2 w1 w2.heap.size wb r line wo (A7 line).length wcap (some ⟨b2,o2,none⟩) its v' (am++ [(pk,pv)])):=by
        have hu:=HUB8.out
        have ha:=HAP.out
        have hnx:(Value.slice ua am.length uc).ownBlock≠some w2.heap.size:=fun e=> absurd (show w2.heap.size+1≤w2.heap.size from(HOW8.out.lt _ e).1) (by omega)
        have hsb:=HSB8.out b2 o2 rfl
        have hwb8:=HWB8.out
        refine⟨hown1,⟨it,((HRC8.out.later hba).kept hkb hnx)⟩,(HRU8.out.later hba).kept hkb (fun e=> (ha _ e).1 rfl),(HSO8.out.later hba (Nat.le_refl _)).kept hkb (fun b o e h=> (ha _ h).2 b o e rfl),(HBE8.out.trans (hba.mono HBE8.out.size)).trans (hb1.mono (by omega)),fun q hq=> ?_,fun b o e=> ⟨(HSB8.out b o e).1,?_⟩,HNE.out,?_⟩
        ·rcases hat with e | e
         ·exact ha q (by rw [←e];exact hq)
         ·rw [e] at hq
          obtain rfl:=Option.some.inj hq
          refine⟨by omega,fun b o e=> ?_⟩
          have:=(HSB8.out b o e).2
          omega
        ·have h1:=(HSB8.out b o e).2
         have h2:=hkb.size
         omega
        ·have h1:=HSZ8.out
         have h2:=hkb.size
         omega
       clear hown1 hb1 hgr hat hba hzz hkb
       go_wp2
       go_roundw
       case rel=> exact⟨m+1,by omega,by go_num,by rw [HST.out,HMD.out,←HP2.out];exact HIN2⟩
       case measure=> (simp [intOf];try omega)
      ·have hisf:ifR r.v line it (A7 line)=false:=by simpa using his
       have HMD:Hid (Jc r.v fold line (A7 line) it=none):=by show _=_;unfold Jc;rw [if_neg his]
       rw [hisf]
       have hba:Below w8.heap.size w8 (w8.alloc (.cells #[.string pk, .int .i64 pv] 202)):=(Below.refl _ _).alloc (Nat.le_refl _) _
       have HIN2:Hid (MIn w2 (w8.alloc (.cells #[.string pk, .int .i64 pv] 202)) w2.heap.size wb r line wo (A7 line).length wcap (some ⟨b2,o2,none⟩) its u6 am):=
        ⟨HOW8.out.later hba,⟨it,HRC8.out.later hba⟩,HRU8.out.later hba,HSO8.out.later hba (Nat.le_refl _),HBE8.out.trans (hba.mono HBE8.out.size),HAP.out,fun b o e=> ⟨(HSB8.out b o e).1,Nat.lt_of_lt_of_le (HSB8.out b o e).2 hba.size⟩,HNE.out,Nat.lt_of_lt_of_le HSZ8.out hba.size⟩
       clear his hisf hba HPP
       go_wp2
       go_roundw
       case rel=> exact⟨m+1,by omega,by go_num,by rw [HST.out,HMD.out];simpa using HIN2⟩
       case measure=> (simp [intOf];try omega)
     ·obtain rfl:m=its.length:=by omega
      rw [List.take_length,←HMA.out,←HSU.out] at HIN
      obtain⟨it0,hr0⟩:=HIN.out.rcd
      have x1:=hr0.get (j:=1) rfl
      have z1:=hr0.fz 1
      have HOW9:=Aa (HIN.out.own.setOther (a:=⟨w2.heap.size,1,none⟩) (fun e=> absurd (show w2.heap.size+1≤w2.heap.size from(HIN.out.own.lt _ e).1) (by omega)) (.string ⟨#[]⟩))
      have HRC9:Hid (Bk (wr.setCell ⟨w2.heap.size,1,none⟩ (.string ⟨#[]⟩)) w2.heap.size [.string line, .string ⟨#[]⟩, .slice wo (A7 line).length wcap]):=hr0.set (k:=1) (u:= .string it0) (.string ⟨#[]⟩) rfl
      have HBE9:=Aa (HIN.out.E5.setCell (p:=⟨w2.heap.size,1,none⟩) (Nat.le_refl _) (.string ⟨#[]⟩))
      clear HIN hr0
      go_wp2
      go_roundw
      case rel=> exact⟨k+1,by omega,by go_num,HOW9,HRC9,HBE9⟩
      case measure=> (simp [intOf];try omega)
  ·obtain rfl:k=rs.length:=by omega
   rw [List.take_of_length_le (by rw [List.length_map];exact Nat.le_refl _)] at HOW
   go_wp2
   go_ret
   exact⟨_,rfl,HOW.out.B6 (by have:=HB2.out.size;omega),HBW.out⟩
end Go.Proofs.YtbibeionenjmfaaGreatDoor
namespace Go.Proofs.YtbibeionenjmfaaGreatDoor
open Go.RowKit
def Bf (rs:List Aw) (kind:Int) (lines:List ByteArray):List Pr:=lines.flatMap fun line=> Fm rs kind line
theorem Adz {lines:List ByteArray} {n:Nat} {x:ByteArray} (rs:List Aw) (kind:Int) (h:lines[n]?=some x):Bf rs kind (lines.take (n+1))=Bf rs kind (lines.take n)++Fm rs kind x:=by
 obtain⟨hlt,hx⟩:=List.getElem?_eq_some_iff.1 h
 unfold Bf
 rw [List.take_succ_eq_append_getElem hlt,hx,List.flatMap_append]
 simp
theorem Yx (rs:List Aw) (kind:Int) (a b:List ByteArray):Bf rs kind (a++b)=Bf rs kind a++Bf rs kind b:=List.flatMap_append
theorem Qv (rs:List Aw) (kind:Int) (hr:rs.length≤4):∀ (lines:List ByteArray),(∀ l∈lines,l.size≤500)→(Bf rs kind lines).length≤lines.length * 2008
 | [],_=> by simp [Bf]
 | a::l,h=> by
   have h1:=Qv rs kind hr l fun x hx=> h x (List.mem_cons_of_mem _ hx)
   have h2:=Ir rs kind a (h a List.mem_cons_self)
   have h3:=Nat.mul_le_mul_right 502 hr
   unfold Bf at h1 ⊢
   rw [List.flatMap_cons,List.length_append,List.length_cons,Nat.succ_mul]
   omega
structure Ae5 (w:World) (ro:Option Addr) (rs:List Ao) (d:Nat):Prop where
 sl:Sl 15 A6 w ro rs
 at_:∀ r∈rs,Ka w d r
structure O6 (rs:List Ao) (fold slices:Int):Prop where
 many:1≤rs.length∧rs.length≤4
 fold:1≤fold∧fold≤4
 slices:1≤slices∧slices≤4
 ok:∀ r∈rs,Gz r.v
theorem O6.of {rs:List Ao} {fold slices:Int} (h:Dv (rs.map Ao.v) fold slices=0):O6 rs fold slices:=by
 obtain⟨h1,h2,h3,h4⟩:=Lo h
 rw [List.length_map] at h1
 exact⟨h1,h2,h3,fun r hr=> Gz.of (h4 _ (List.mem_map_of_mem hr))⟩
structure D4 (w:World) (base g:Nat) (ro:Option Addr) (rc:Nat) (rs:List Ao) (fold slices:Int) (early:Bool) (lines:List ByteArray) (n:Nat) (la:Option Addr) (lc:Nat) (va:Value):Prop where
 bk:Bk w g [.slice ro rs.length rc, .int .i64 fold, .bool early, .int .i64 slices, .slice la lines.length lc, .int .i64 n,va]
 lo:base≤g
 sl:Sl 1 Cm w la lines
 own:Own 2 Bt 202 w base va (Bf (rs.map Ao.v) fold (lines.take n))
 apart:va.ownBlock≠some g∧∀ b off,la=some ⟨b,off,none⟩→(b≠g∧b < w.heap.size)∧va.ownBlock≠some b
 O9:n≤lines.length
theorem D4.later {w w':World} {base g:Nat} {ro:Option Addr} {rc:Nat} {rs:List Ao} {fold slices:Int} {early:Bool} {lines:List ByteArray} {n:Nat} {la:Option Addr} {lc:Nat} {va:Value} (h:D4 w base g ro rc rs fold slices early lines n la lc va) (hb:Below w.heap.size w w'):D4 w' base g ro rc rs fold slices early lines n la lc va:=
 ⟨h.bk.later hb,h.lo,h.sl.later hb (Nat.le_refl _),h.own.later hb,⟨h.apart.1,fun b o e=> ⟨⟨(h.apart.2 b o e).1.1,Nat.lt_of_lt_of_le (h.apart.2 b o e).1.2 hb.size⟩,(h.apart.2 b o e).2⟩⟩,h.O9⟩
theorem Aay:(Tryz.prog.info? 9).map (fun i=> (i.zero,i.size,i.bytes))=some (some (.string ⟨#[]⟩),1,16):=by kernel_rfl
set_option maxRecDepth 100000 in
set_option maxHeartbeats 2000000 in
theorem Al3 (ro:Option Addr) (rc:Nat) (rs:List Ao) (fold slices:Int) (early:Bool) (d:Nat) (lo:Option Addr) (lc:Nat) (lines:List ByteArray) (w:World) (hj:Ae5 w ro rs d) (hl:rs.length≤maxLen) (hll:lines.length≤1000000) (hs:Sl 1 Cm w lo lines) (hn:lo=none→lc=0) (hok:Dv (rs.map Ao.v) fold slices=0) (h60:lines.length≤60):
 Calls Tryz.prog 75 #[.agg #[.slice ro rs.length rc, .int .i64 fold, .bool early, .int .i64 slices], .slice lo lines.length lc] w fun e w'=> (∃ g la lc',e= .returned (.tuple #[.pointer (some ⟨g,0,none⟩), .nilIface])∧D4 w' w.heap.size g ro rc rs fold slices early lines 0 la lc' (.slice none 0 0)∧∀ b o,la=some ⟨b,o,none⟩→w.heap.size≤b)∧Below w.heap.size w w':=by
 obtain⟨i0,hi0,hz0,hz1,hz2⟩:=info_parts Aay
 obtain⟨W1,hW1⟩:∃ W,W=w.alloc (.cells #[.slice ro rs.length rc, .int .i64 fold, .bool early, .int .i64 slices] 96):=⟨_,rfl⟩
 have hb1:Below w.heap.size w W1:=by rw [hW1];exact(Below.refl _ _).alloc (Nat.le_refl _) _
 have hbj:Bk W1 w.heap.size [.slice ro rs.length rc, .int .i64 fold, .bool early, .int .i64 slices]:=by rw [hW1];exact Bk.new rfl
 have HJ:=Aa hj
 have HB:=Aa hb1
 have HBJ:=Aa hbj
 have HW1:=Aa hW1
 have HS:=Aa hs
 have HN:=Aa hn
 have HJC:=Aa (Pf ro rc rs fold slices early W1 hl (hj.sl.later hb1 (Nat.le_refl _)) fun r hr=> ⟨d,(hj.at_ r hr).later hb1 (Nat.le_refl _)⟩)
 rw [hok,A3] at HJC
 clear hj hs hn hb1 hbj hW1
 go_enter Tryz.func75,Tryz.ntmps75
 go_upto_region 1 with (fail)
 rw [←HW1.out]
 clear HW1
 have j0:=HBJ.out.get (j:=0) rfl
 have j1:=HBJ.out.get (j:=1) rfl
 have j2:=HBJ.out.get (j:=2) rfl
 have j3:=HBJ.out.get (j:=3) rfl
 go_wp2_with fail
 refine HJC.out.mono ?_
 rintro e w2 ⟨rfl,b2⟩
 replace j0:=cell_later b2 j0
 replace j1:=cell_later b2 j1
 replace j2:=cell_later b2 j2
 replace j3:=cell_later b2 j3
 replace HB:=Aa (HB.out.trans (b2.mono HB.out.size))
 replace HBJ:=Aa (HBJ.out.later b2)
 clear b2 HJC
 have g1:decide ((60:Int) < (lines.length:Int))=false:=by simp;omega
 go_upto_region 6 with (fail)
 have HOW:∀ nq,Own 1 Cm 9 (w2.drewN nq) w2.heap.size (.slice none 0 0) ([]:List ByteArray):=fun nq=> Own.nil
 have HS2:=Aa (HS.out.later HB.out (Nat.le_refl _))
 go_region_law (refine Mb (enc:=Cm) Cc _ _ 39 i0 _ rfl rfl Tryz.underlying39 hi0 hz0 hz1 hz2 rfl (by decide) (by decide) (Own.nil (w:=w2.drew) (base:=w2.heap.size)) (Below.refl _ _) (Nat.le_refl _) lines (by simp;omega) rfl lo lc lines.length rfl rfl HN.out HS2.out (Mt Afr) ?_;intro v' w1 ho hb1 hgr hat;obtain⟨na,nc,rfl⟩:=id ho.1;have q0:=cell_later (w:=w2.drew) hb1 j0;have q1:=cell_later (w:=w2.drew) hb1 j1;have q2:=cell_later (w:=w2.drew) hb1 j2;have q3:=cell_later (w:=w2.drew) hb1 j3)
 all_goals
  have HBa:=Aa (HB.out.trans (((Below.refl w2.heap.size w2).drew.trans hb1).mono HB.out.size))
  have hsz:w2.heap.size≤w1.heap.size:=hb1.size
  have hba:Below w1.heap.size w1 (w1.alloc (.cells #[.slice ro rs.length rc, .int .i64 fold, .bool early, .int .i64 slices, .slice na lines.length nc, .int .i64 0, .slice none 0 0] 216)):=(Below.refl _ _).alloc (Nat.le_refl _) _
  have HRA:Hid (D4 (w1.alloc (.cells #[.slice ro rs.length rc, .int .i64 fold, .bool early, .int .i64 slices, .slice na lines.length nc, .int .i64 0, .slice none 0 0] 216)) w.heap.size w1.heap.size ro rc rs fold slices early lines 0 na nc (.slice none 0 0)):=by
   refine⟨Bk.new rfl,HBa.out.size,(ho.sl Cc).later hba (Nat.le_refl _),Own.nil,⟨by simp [Value.ownBlock],?_⟩,Nat.zero_le _⟩
   rintro b off rfl
   have:=(ho.lt b rfl).2
   exact⟨⟨by omega,by have:=hba.size;omega⟩,by simp [Value.ownBlock]⟩
  have HB9:=Aa (HBa.out.trans (hba.mono HBa.out.size))
  have HLW:Hid (∀ b o,na=some ⟨b,o,none⟩→w.heap.size≤b):=fun b o e=> by
   subst e
   exact Nat.le_trans HB.out.size (ho.lt b rfl).1
  clear ho hb1 hgr hat q0 q1 q2 q3 hba HBa
  go_wp2
  go_ret2
  exact⟨⟨_,_,_,rfl,HRA.out,HLW.out⟩,HB9.out⟩
end Go.Proofs.YtbibeionenjmfaaGreatDoor
namespace Go.Proofs.YtbibeionenjmfaaGreatDoor
open Go.RowKit
def Qd (base g:Nat) (ro:Option Addr) (rc:Nat) (rs:List Ao) (fold slices:Int) (early:Bool) (lines:List ByteArray) (n:Nat) (la:Option Addr) (lc:Nat) (va:Value) (w:World) (e:Ending) (w':World):Prop:=
 ∃ va',(e= .returned (.bool (decide (n=lines.length)))∧D4 w' base g ro rc rs fold slices early lines n la lc va'∧(∀ q,va'.ownBlock=some q→va.ownBlock=some q∨w.heap.size≤q))∧Ab (fun q=> q=g∨va.ownBlock=some q) w w'
theorem Ad2 {base g:Nat} {ro:Option Addr} {rc:Nat} {rs:List Ao} {fold slices:Int} {early:Bool} {lines:List ByteArray} {n:Nat} {la:Option Addr} {lc:Nat} {va v' va0:Value} {line:ByteArray} {w0 w W w1:World} (h:D4 w base g ro rc rs fold slices early lines n la lc va) (hn:lines[n]?=some line) (hb:Below w.heap.size w W)
 (ho:Own 2 Bt 202 w1 base v' (Bf (rs.map Ao.v) fold (lines.take n)++Fm (rs.map Ao.v) fold line)) (hg:W.grownBy w1 va.ownBlock) (hat:v'.ownBlock=va.ownBlock∨v'.ownBlock=some W.heap.size)
 (hv:∀ q,va.ownBlock=some q→va0.ownBlock=some q∨w0.heap.size≤q) (hk:Ab (fun q=> q=g∨va0.ownBlock=some q) w0 w):
 (D4 ((w1.setCell ⟨g,6,none⟩ v').setCell ⟨g,5,none⟩ (.int .i64 ((n:Int)+1))) base g ro rc rs fold slices early lines (n+1) la lc v'∧(∀ q,v'.ownBlock=some q→va0.ownBlock=some q∨w0.heap.size≤q)∧Ab (fun q=> q=g∨va0.ownBlock=some q) w0 ((w1.setCell ⟨g,6,none⟩ v').setCell ⟨g,5,none⟩ (.int .i64 ((n:Int)+1))))∧Bk w1 g [.slice ro rs.length rc, .int .i64 fold, .bool early, .int .i64 slices, .slice la lines.length lc, .int .i64 n,va]:=by
 have hgl:=h.bk.lt
 have hkg:Ab (fun q=> va.ownBlock=some q) W w1:=Ab.A9 hg fun k e=> e
 have hbk1:=(h.bk.later hb).kept hkg h.apart.1
 have hws:=hk.size
 have hbs:=hb.size
 have hk1:Ab (fun q=> q=g∨va0.ownBlock=some q) w0 w1:=(hk.trans (Ab.Ai hb (Nat.le_refl _))).Yo hg fun k e=> (hv k e).imp .inr id
 have hv'g:v'.ownBlock≠some g:=fun e=> by
  rcases hat with h1 | h1
  ·rw [h1] at e;exact h.apart.1 e
  ·rw [h1] at e;have:=Option.some.inj e;omega
 have hsl1:Sl 1 Cm w1 la lines:=(h.sl.later hb (Nat.le_refl _)).kept hkg fun b o e=> (h.apart.2 b o e).2
 have hb6:=hbk1.set (k:=6) (u:=va) v' rfl
 have hb5:=hb6.set (k:=5) (u:= .int .i64 n) (.int .i64 ((n:Int)+1)) rfl
 have hnl:n < lines.length:=(List.getElem?_eq_some_iff.1 hn).1
 have hkq:Ab (fun q=> q=g) w1 ((w1.setCell ⟨g,6,none⟩ v').setCell ⟨g,5,none⟩ (.int .i64 ((n:Int)+1))):=((Ab.refl (fun q=> q=g) w1).setCell (p:=⟨g,6,none⟩) rfl _).setCell (p:=⟨g,5,none⟩) rfl _
 refine⟨⟨⟨?_,h.lo,hsl1.kept hkq fun b o e=> (h.apart.2 b o e).1.1,?_,⟨hv'g,fun b o e=> ⟨⟨(h.apart.2 b o e).1.1,?_⟩,fun e2=> ?_⟩⟩,hnl⟩,fun q e=> ?_,?_⟩,hbk1⟩
 ·have:((n:Int)+1)=((n+1:Nat):Int):=by omega
  rw [←this]
  exact hb5
 ·rw [Adz _ _ hn]
  exact(ho.setOther (a:=⟨g,6,none⟩) hv'g _).setOther (a:=⟨g,5,none⟩) hv'g _
 ·have h1:=(h.apart.2 b o e).1.2
  have h2:=hkg.size
  have h3:=hkq.size
  omega
 ·rcases hat with h1 | h1
  ·rw [h1] at e2;exact(h.apart.2 b o e).2 e2
  ·rw [h1] at e2
   have:=Option.some.inj e2
   have:=(h.apart.2 b o e).1.2
   omega
 ·rcases hat with h1 | h1
  ·rw [h1] at e;exact hv q e
  ·rw [h1] at e;have:=Option.some.inj e;right;omega
 ·exact(hk1.setCell (p:=⟨g,6,none⟩) (.inl rfl) _).setCell (p:=⟨g,5,none⟩) (.inl rfl) _
theorem Xi {base g:Nat} {ro:Option Addr} {rc:Nat} {rs:List Ao} {fold slices:Int} {early:Bool} {lines:List ByteArray} {n m:Nat} {la:Option Addr} {lc:Nat} {va va':Value} {w wr:World} {b:Bool} (hm:n=m) (hb:decide (n=lines.length)=b) (h1:D4 wr base g ro rc rs fold slices early lines n la lc va') (h3:∀ q,va'.ownBlock=some q→va.ownBlock=some q∨w.heap.size≤q) (h4:Ab (fun q=> q=g∨va.ownBlock=some q) w wr) (nq:Nat):
 Qd base g ro rc rs fold slices early lines m la lc va w (.returned (.bool b)) (wr.drewN nq):=by
 subst hb hm
 exact⟨va',⟨rfl,h1.later (below_drewN (Below.refl _ _) _),h3⟩,h4.drewN nq⟩
theorem Ad1 {base g:Nat} {ro:Option Addr} {rc:Nat} {rs:List Ao} {fold slices:Int} {early:Bool} {lines:List ByteArray} {n m:Nat} {la:Option Addr} {lc:Nat} {va va':Value} {w wr:World} {b:Bool} (hm:n=m) (hb:decide (n=lines.length)=b) (h1:D4 wr base g ro rc rs fold slices early lines n la lc va') (h3:∀ q,va'.ownBlock=some q→va.ownBlock=some q∨w.heap.size≤q) (h4:Ab (fun q=> q=g∨va.ownBlock=some q) w wr) (nq np:Nat):
 Qd base g ro rc rs fold slices early lines m la lc va w (.returned (.bool b)) ((wr.drewN nq).drewN np):=
 Xi hm hb (h1.later (below_drewN (Below.refl _ _) _)) h3 (h4.drewN nq) np
set_option maxRecDepth 100000 in
set_option maxHeartbeats 4000000 in
theorem Agn {base g:Nat} {ro:Option Addr} {rc:Nat} {rs:List Ao} {fold slices:Int} {early:Bool} {lines:List ByteArray} {n:Nat} {la:Option Addr} {lc:Nat} {va:Value} (d:Nat) (many:Int) (w:World) (hbase:base≤w.heap.size) (hg:∀ w',Below base w w'→GM w') (hj:∀ w',Below base w w'→Ae5 w' ro rs d) (hok:O6 rs fold slices) (h:D4 w base g ro rc rs fold slices early lines n la lc va) (hli:∀ l∈lines,l.size≤500) (hll:lines.length≤1000) (hmany:many≤9223372036854775807):
 Calls Tryz.prog 81 #[.pointer (some ⟨g,0,none⟩), .int .i64 many] w (Qd base g ro rc rs fold slices early lines (min (n+many.toNat) lines.length) la lc va w):=by
 obtain⟨i0,hi0,hz0,hz1,hz2⟩:=info_parts Ks
 have HR0:=Aa h
 have HG:=Aa hg
 have HJ:=Aa hj
 have HOK:=Aa hok
 have HLI:=Aa hli
 have hrn:=hok.many.2
 obtain⟨M,hM⟩:∃ M:Nat,max many 0=M:=⟨(max many 0).toNat,by omega⟩
 have hMm:many.toNat=M:=by omega
 have hM2:M≤9223372036854775807:=by omega
 rw [hMm]
 have hn0:=h.O9
 have HLO:=Aa h.lo
 clear h hMm hg hj hok hli
 go_enter Tryz.func81,Tryz.ntmps81
 go_wp2_with fail
 go_loopw [7] (fun i wr=> ∃ (j n':Nat) (va':Value),j≤M∧i= .int .i64 j∧n'=min (n+j) lines.length∧Hid (D4 wr base g ro rc rs fold slices early lines n' la lc va')∧Hid (∀ q,va'.ownBlock=some q→va.ownBlock=some q∨w.heap.size≤q)∧Hid (Ab (fun q=> q=g∨va.ownBlock=some q) w wr)) (fun i _=> M - (intOf i).toNat)
 case atStart=> exact⟨0,n,va,by omega,rfl,by omega,HR0,(fun q h=> .inl h),Ab.refl _ _⟩
 case round=>
  obtain⟨j,n',va',hj,rfl,hn',HR,HV,HK⟩:=hrel
  have HN:=Aa hn'
  clear hn'
  obtain⟨oa,oc,hva⟩:=id HR.out.own.1
  have c4:=HR.out.bk.get (j:=4) rfl
  have c5:=HR.out.bk.get (j:=5) rfl
  have hnl:=HR.out.O9
  by_cases hjM:j < M
  ·by_cases he:n'=lines.length
   ·have e1:((n':Int) ==(lines.length:Int))=true:=by rw [beq_iff_eq];omega
    have e1':(n' ==lines.length)=true:=by rw [beq_iff_eq];omega
    have HDE:Hid (decide (n'=lines.length)=true):=by show _=_;simpa using he
    have HMI:Hid (n'=min (n+M) lines.length):=by have:=HN.out;show _=_;omega
    have HE:=Aa he
    clear he hva
    go_wp2_with fail
    go_quiet (fail)
    go_wp2_with fail
    go_quiet (fail)
    go_wp2_with fail
    go_ret
    exact Ad1 (b:=true) HMI.out HDE.out HR.out HV.out HK.out _ _
   ·have hlt:n' < lines.length:=by omega
    have e1:((n':Int) ==(lines.length:Int))=false:=by rw [beq_eq_false_iff_ne];omega
    have e1':(n' ==lines.length)=false:=by rw [beq_eq_false_iff_ne];omega
    obtain⟨b,off,line,rfl,hbw,hlk,d0⟩:=HR.out.sl.str hlt
    have c0:=HR.out.bk.get (j:=0) rfl
    have c1:=HR.out.bk.get (j:=1) rfl
    have c2:=HR.out.bk.get (j:=2) rfl
    have c3:=HR.out.bk.get (j:=3) rfl
    have c6:=HR.out.bk.get (j:=6) rfl
    have HBS:Hid (Below base w wr):=HK.out.below (fun q hq=> by
     rcases hq with rfl | hq
     ·exact HLO.out
     ·exact(HR0.out.own.lt q hq).1) hbase
    have HP:=Aa fun(w':World) (hb:Below wr.heap.size wr w')=> by
     have hbw:=HBS.out.trans (hb.mono (Nat.le_trans hbase HK.out.size))
     exact Agq ro rc rs fold slices early line d w' (HG.out w' hbw) (by omega) (HLI.out line (List.mem_of_getElem? hlk)) (HJ.out w' hbw).sl (HJ.out w' hbw).at_ HOK.out.ok
    have f1:(0:Int)≤(n':Int)∧(n':Int) < (lines.length:Int):=by omega
    obtain⟨f1,f2⟩:=f1
    go_wp2_with fail
    go_quiet (fail)
    go_wp2_with fail
    replace HP:=Aa fun(w':World) (hb:Below (wr.drewN nq).heap.size (wr.drewN nq) w')=> HP.out w' ((below_drewN (Below.refl _ _) nq).trans hb)
    have HR2:=Aa (HR.out.later (below_drewN (Below.refl _ _) nq))
    have HK2:=Aa (HK.out.drewN nq)
    have d1:(wr.drewN nq).cell? ⟨b,off+n',none⟩=some (.string line):=d0
    have HLK:=Aa hlk
    have HBW:=Aa (Nat.le_trans hbase HK2.out.size)
    have HLN:Hid ((Bf (rs.map Ao.v) fold (lines.take n')).length+(Fm (rs.map Ao.v) fold line).length≤1000000000):=by
     have h1:=Qv (rs.map Ao.v) fold (by rw [List.length_map];exact hrn) (lines.take n') (fun l hl=> HLI.out l (List.mem_of_mem_take hl))
     have h2:=Ir (rs.map Ao.v) fold line (HLI.out line (List.mem_of_getElem? hlk))
     rw [List.length_take] at h1
     rw [List.length_map] at h2
     have h3:=Nat.mul_le_mul_right 502 hrn
     show _≤_
     omega
    have HNX:Hid (n'+1=min (n+(j+1)) lines.length):=by have:=HN.out;show _=_;omega
    clear HR HK HBS c0 c1 c2 c3 c4 c5 c6 d0 hlk hlt HN
    generalize wr.drewN nq=W at *
    subst hva
    have c0:=HR2.out.bk.get (j:=0) rfl
    have c1:=HR2.out.bk.get (j:=1) rfl
    have c2:=HR2.out.bk.get (j:=2) rfl
    have c3:=HR2.out.bk.get (j:=3) rfl
    have c4:=HR2.out.bk.get (j:=4) rfl
    have c5:=HR2.out.bk.get (j:=5) rfl
    have c6:=HR2.out.bk.get (j:=6) rfl
    refine wp_region_noPanic ?_
    refine Al (S:=(fun w'=> Below W.heap.size W w')) (E:= [20,21,22,23]) (by kernel_rfl) ?_ (fun hHeld=> ?_)
    ·(first | exact(Below.refl _ _).drew | exact hHeld.trans (b1.mono hHeld.size))
    try dsimp only [List.size_toArray,List.length_cons,List.length_nil,Nat.reduceAdd]
    refine hP 0 (v:=?_) rfl (by kernel_rfl) (by rfl) ?_ ?_
    rotate_left
    focus (intro w;go_simp;try with_reducible rfl)
    refine hP 1 (v:=?_) rfl (by kernel_rfl) (by rfl) ?_ ?_
    rotate_left
    focus (intro w;go_simp;try with_reducible rfl)
    refine hP 2 (v:=?_) rfl (by kernel_rfl) (by rfl) ?_ ?_
    rotate_left
    focus (intro w;go_simp;try with_reducible rfl)
    refine hP 3 (v:=?_) rfl (by kernel_rfl) (by rfl) ?_ ?_
    rotate_left
    focus (intro w;go_simp;try with_reducible rfl)
    refine hT 4 [[4], [4], [4], [4]] (v:=?_) rfl (by kernel_rfl) (by rfl) (by assumption) ?_ ?_
    rotate_left
    focus (intro w hSw;(try dsimp only at hSw);(have q0:=cell_later hSw c0;have q1:=cell_later hSw c1;have q2:=cell_later hSw c2;have q3:=cell_later hSw c3;have q4:=cell_later hSw c4;have q5:=cell_later hSw c5;have q6:=cell_later hSw c6;have q7:=cell_later hSw d1);go_simp;try with_reducible rfl)
    refine hP 5 (v:=?_) rfl (by kernel_rfl) (by rfl) ?_ ?_
    rotate_left
    focus (intro w;go_simp;try with_reducible rfl)
    refine hP 6 (v:=?_) rfl (by kernel_rfl) (by rfl) ?_ ?_
    rotate_left
    focus (intro w;go_simp;try with_reducible rfl)
    refine hP 7 (v:=?_) rfl (by kernel_rfl) (by rfl) ?_ ?_
    rotate_left
    focus (intro w;go_simp;try with_reducible rfl)
    refine hT 8 [[19,8], [8], [8], [8]] (v:=?_) rfl (by kernel_rfl) (by rfl) (by assumption) ?_ ?_
    rotate_left
    focus (intro w hSw;(try dsimp only at hSw);(have q0:=cell_later hSw c0;have q1:=cell_later hSw c1;have q2:=cell_later hSw c2;have q3:=cell_later hSw c3;have q4:=cell_later hSw c4;have q5:=cell_later hSw c5;have q6:=cell_later hSw c6;have q7:=cell_later hSw d1);go_simp;try with_reducible rfl)
    refine hP 9 (v:=?_) rfl (by kernel_rfl) (by rfl) ?_ ?_
    rotate_left
    focus (intro w;go_simp;try with_reducible rfl)
    refine hP 10 (v:=?_) rfl (by kernel_rfl) (by rfl) ?_ ?_
    rotate_left
    focus (intro w;go_simp;try with_reducible rfl)
    refine hP 11 (v:=?_) rfl (by kernel_rfl) (by rfl) ?_ ?_
    rotate_left
    focus (intro w;go_simp;try with_reducible rfl)
    refine hT 12 [[19,18,17,12], [12], [12], [12]] (v:=?_) rfl (by kernel_rfl) (by rfl) (by assumption) ?_ ?_
    rotate_left
    focus (intro w hSw;(try dsimp only at hSw);(have q0:=cell_later hSw c0;have q1:=cell_later hSw c1;have q2:=cell_later hSw c2;have q3:=cell_later hSw c3;have q4:=cell_later hSw c4;have q5:=cell_later hSw c5;have q6:=cell_later hSw c6;have q7:=cell_later hSw d1);go_simp;try with_reducible rfl)
    refine hP 13 (v:=?_) rfl (by kernel_rfl) (by rfl) ?_ ?_
    rotate_left
    focus (intro w;go_simp;try with_reducible rfl)
    refine hP 14 (v:=?_) rfl (by kernel_rfl) (by rfl) ?_ ?_
    rotate_left
    focus (intro w;go_simp;try with_reducible rfl)
    refine hP 15 (v:=?_) rfl (by kernel_rfl) (by rfl) ?_ ?_
    rotate_left
    focus (intro w;go_simp;try with_reducible rfl)
    refine hT 16 [[19,18,17,16], [16], [16], [16]] (v:=?_) rfl (by kernel_rfl) (by rfl) (by assumption) ?_ ?_
    rotate_left
    focus (intro w hSw;(try dsimp only at hSw);(have q0:=cell_later hSw c0;have q1:=cell_later hSw c1;have q2:=cell_later hSw c2;have q3:=cell_later hSw c3;have q4:=cell_later hSw c4;have q5:=cell_later hSw c5;have q6:=cell_later hSw c6;have q7:=cell_later hSw d1);go_simp;try with_reducible rfl)
    refine hT 17 [[19,18,17], [17], [17], [17]] (v:=?_) rfl (by kernel_rfl) (by rfl) (by assumption) ?_ ?_
    rotate_left
    focus (intro w hSw;(try dsimp only at hSw);(have q0:=cell_later hSw c0;have q1:=cell_later hSw c1;have q2:=cell_later hSw c2;have q3:=cell_later hSw c3;have q4:=cell_later hSw c4;have q5:=cell_later hSw c5;have q6:=cell_later hSw c6;have q7:=cell_later hSw d1);go_simp;try with_reducible rfl)
    refine hT 18 [[19,18], [18], [18], [18]] (v:=?_) rfl (by kernel_rfl) (by rfl) (by assumption) ?_ ?_
    rotate_left
    focus (intro w hSw;(try dsimp only at hSw);(have q0:=cell_later hSw c0;have q1:=cell_later hSw c1;have q2:=cell_later hSw c2;have q3:=cell_later hSw c3;have q4:=cell_later hSw c4;have q5:=cell_later hSw c5;have q6:=cell_later hSw c6;have q7:=cell_later hSw d1);go_simp;try with_reducible rfl)
    try simp only [Act.put,List.setIfInBounds_toArray,List.set_cons_zero,List.set_cons_succ]
    refine hR [19] (by kernel_rfl) (by simp) (Ac.cons rfl (fun KH hKH=> ?_) .nil)
    go_simp
    (go_at_call 118;refine(HP.out _ hHeld).mono ?_;rintro e w1 ⟨v1,rfl,o1,b1⟩;obtain⟨pa,pc,rfl⟩:=id o1.1)
    try go_wp2_with fail
    refine hKH.out _ _ ?_ (fun hNew=> ?_)
    ·(first | exact(Below.refl _ _).drew | exact hHeld.trans (b1.mono hHeld.size))
    clear hKH KH hHeld
    have hHeld:=hNew
    clear hNew
    try simp only [Act.put,List.setIfInBounds_toArray,List.set_cons_zero,List.set_cons_succ]
    refine hR [20] (by kernel_rfl) (by simp) (Ac.Bb rfl (by kernel_rfl) (fun KH hKH=> ?_) .nil)
    refine Mb Bn _ _ 157 i0 _ rfl rfl Tryz.underlying157 hi0 hz0 hz1 hz2 rfl (by decide) (by decide) (HR2.out.own.later hHeld) (Below.refl _ _) (Nat.le_trans HBW.out hHeld.size) _ HLN.out rfl pa pc _ rfl rfl o1.Ts (o1.sl Bn) (Mt Kx) ?_
    intro v' w2 ho hb2 hgr hat
    have hst:=Ad2 HR2.out HLK.out hHeld ho hgr hat HV.out HK2.out
    obtain⟨na,nc,rfl⟩:=id ho.1
    have s5:=hst.2.get (j:=5) rfl
    have s6:=hst.2.get (j:=6) rfl
    have y5:=hst.2.fz 5
    have y6:=hst.2.fz 6
    have hs1:=hst.1
    simp only [List.length_append] at hs1
    have HST:=Aa hs1
    clear ho hb2 hgr hat hst hs1 o1 b1 c0 c1 c2 c3 c4 c5 c6 d1 HP
    refine hKH.out _ _ ?_
    clear hKH KH
    try clear hHeld
    try simp only [Act.put,List.setIfInBounds_toArray,List.set_cons_zero,List.set_cons_succ]
    refine hR [21] (by kernel_rfl) (by simp) (Ac.Bb rfl (by kernel_rfl) (fun KH hKH=> ?_) .nil)
    go_simp
    refine hKH.out _ _ ?_
    clear hKH KH
    try clear hHeld
    try simp only [Act.put,List.setIfInBounds_toArray,List.set_cons_zero,List.set_cons_succ]
    refine hR [22] (by kernel_rfl) (by simp) (Ac.Bb rfl (by kernel_rfl) (fun KH hKH=> ?_) .nil)
    go_simp
    refine hKH.out _ _ ?_
    clear hKH KH
    try clear hHeld
    try simp only [Act.put,List.setIfInBounds_toArray,List.set_cons_zero,List.set_cons_succ]
    refine hR [23] (by kernel_rfl) (by simp) (Ac.Bb rfl (by kernel_rfl) (fun KH hKH=> ?_) .nil)
    go_simp
    refine hKH.out _ _ ?_
    clear hKH KH
    try clear hHeld
    refine Ak (by kernel_rfl) ?_ _
    refine NoPanic.normal ?_
    go_wp2
    go_roundw
    case rel=> exact⟨j+1,n'+1,_,by omega,by go_num,HNX.out,HST.out.1,HST.out.2.1,HST.out.2.2⟩
    case measure=> (simp [intOf];try omega)
  ·have hdM:j=M:=by omega
   subst hdM
   have e3:decide (j < j)=false:=by simp
   have e3':decide ((j:Int) < (j:Int))=false:=by simp
   have HMI:Hid (n'=min (n+j) lines.length):=HN.out
   obtain⟨db,hdb⟩:∃ db,decide (n'=lines.length)=db:=⟨_,rfl⟩
   have HDB:=Aa hdb
   have e1:((n':Int) ==(lines.length:Int))=db:=by
    rw [←hdb]
    by_cases h:n'=lines.length
    ·simp [h]
    ·have:¬ (n':Int)=(lines.length:Int):=by omega
     simp [h,this]
   have e1':(n' ==lines.length)=db:=by rw [←hdb];rfl
   clear hdb hva
   go_wp2_with fail
   go_quiet (fail)
   go_wp2_with fail
   go_ret
   exact Xi HMI.out HDB.out HR.out HV.out HK.out _
end Go.Proofs.YtbibeionenjmfaaGreatDoor
