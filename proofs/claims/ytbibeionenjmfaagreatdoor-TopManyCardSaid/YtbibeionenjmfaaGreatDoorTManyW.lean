/- TopMany: the law's walk. -/
import Derived.Test.YtbibeionenjmfaaGreatDoorFlWork
import Derived.Test.YtbibeionenjmfaaGreatDoorFlNewB
set_option linter.unusedSimpArgs false
set_option linter.unusedVariables false
namespace Go.Proofs.YtbibeionenjmfaaGreatDoor
open Go.RowKit
def Abq:List UInt8:= [115,117,109,32,49,10,107,101,121,32,108,105,110,101,32,118,97,108,32,109,97,110,121,10]
def An6:Ax:=⟨false,0,Qi,tx [], .mk 2 0 (tx []) [], .mk 9 0 (tx []) []⟩
theorem Akk:N6 Abq=some ([An6],1,1,false):=Af2 (s:=Abq) (rv:= [An6]) (fold:=1) (slices:=1) (early:=false) (by decide+kernel) (by decide+kernel) (by decide)
def Tw:Ad:={Gi [(1,2)] 1 2 with Aj:= [Dy 0 [An6] 1 1 false [tx [97]] 1],log:=Kt (tx Vd, [0,1], [tx Abq,tx [97,10]])}
theorem V4:Cx (Gi [(1,2)] 1 2) 0 Abq [97,10] 1=((0,0),Tw):=by
 unfold Cx Ex
 dsimp only
 rw [Akk]
 dsimp only
 rfl
theorem Agn:(E5 Tw 0).1=((0,false,0),0):=by decide+kernel
theorem Ac1:(H4 (E5 Tw 0).2 0 1).1=0:=by decide+kernel
theorem Alz (n:Int) (w:World):(Instr.typeAssert (.iface 91 (.int .i64 n)) 29 91 true).run Tryz.prog w= .ok (.tuple #[.int .i64 n, .bool true]) w:=by kernel_rfl
set_option maxRecDepth 100000 in
theorem Yv (f:Int) (w:World):Calls Tryz.prog 19 #[Ed f] w fun e w'=> e= .returned (.int .i64 f)∧w=w':=by
 by_cases h:f=0
 ·subst h
  rw [A2]
  go_enter Tryz.func19,Tryz.ntmps19
  go_wp2
  go_ret
  exact⟨rfl,rfl⟩
 ·rw [A0 h]
  have ht:=Alz f
  go_enter Tryz.func19,Tryz.ntmps19
  go_wp2
  go_ret
  exact⟨rfl,rfl⟩
set_option maxRecDepth 100000 in
set_option maxHeartbeats 4000000 in
theorem Ahq (w:World) (hg:GW w):Calls Tryz.prog 14 #[] w fun e w'=> e= .returned (.bool true)∧Below w.heap.size w w':=by
 obtain⟨W,hW⟩:∃ W,W=w.alloc (.cells #[.int .i64 1, .int .i64 2] 44):=⟨_,rfl⟩
 have hb:Below w.heap.size w W:=by rw [hW];exact ba w _
 have hs:Sl 2 B6 W (some ⟨w.heap.size,0,none⟩) [(1,2)]:=by rw [hW];exact Sl.lit Ba (Bt _ _) rfl
 have HN:=Aa (Z3 (some ⟨w.heap.size,0,none⟩) 1 [(1,2)] 1 2 W (hg.later hb (Nat.le_refl _)) hs (fun h=> by cases h) (by decide) (by decide) (by decide))
 have HB:=Aa hb
 have HW:=Aa hW
 have HW0:Hid (w.heap.size≤W.heap.size):=hb.size
 have HI0:Hid (Dw (Gi [(1,2)] 1 2)):=Ti (by decide) (by decide) (by decide)
 have HF1:Hid (Ky Tw 1):=by
  have h0:Ky (Gi [(1,2)] 1 2) 0:=Qw (by decide) (by decide) (by decide)
  have:=h0.Ok 0 Abq [97,10] 1 (by decide) (by decide)
  rw [V4] at this
  exact this
 clear hg hb hs hW
 go_enter Tryz.func14,Tryz.ntmps14
 go_wp2_with fail
 rw [←HW.out]
 clear HW
 refine HN.out.mono ?_
 rintro e w2 ⟨⟨fb,rfl,own,G,rfl,hf⟩,b2⟩
 replace HB:=Aa (HB.out.trans (b2.mono HB.out.size))
 have HSU:=Aa (R7 0 1 Abq [97,10] hf HI0.out.toFz (by decide) (by decide) (by decide) (by decide))
 rw [V4] at HSU
 have HF:=Aa hf
 have HX1:Hid (tx Abq=⟨#[115,117,109,32,49,10,107,101,121,32,108,105,110,101,32,118,97,108,32,109,97,110,121,10]⟩):=rfl
 have HX2:Hid (tx [97,10]=⟨#[97,10]⟩):=rfl
 rw [HX1.out,HX2.out,A2] at HSU
 clear HN hf b2 HX1 HX2
 go_wp2_with fail
 refine HSU.out.mono ?_
 rintro e w3 ⟨rfl,⟨own3,G3,hf3,hfb3,_⟩,k3⟩
 have HB3:Hid (Below w.heap.size w w3):=HB.out.trans (k3.below (B:=w.heap.size) (fun q hq=> Nat.le_trans HW0.out ((HF.out.lo q hq).1)) HB.out.size)
 have HJ:=Aa (Afl hf3)
 have hjl:Tw.Aj.length=1:=rfl
 rw [hfb3,hjl] at HJ
 have HF3:=Aa hf3
 have HFB3:=Aa hfb3
 clear HSU hf3 hfb3 hjl k3
 go_wp2_with fail
 refine HJ.out.mono ?_
 rintro e w4 ⟨rfl,b4⟩
 have hf4:=HF3.out.later b4
 have HO:=Aa (Oe 0 hf4 HF1.out.toFz)
 rw [HFB3.out,Agn,A2,show Cu (0,false,0)= .agg #[.int .i64 0, .bool false, .int .i64 0] from rfl] at HO
 have HB4:=Aa (HB3.out.trans (b4.mono HB3.out.size))
 have HF4:=Aa hf4
 clear hf4 b4 HJ
 go_wp2_with fail
 refine HO.out.mono ?_
 rintro e w5 ⟨rfl,⟨own5,G5,hf5,hfb5,_⟩,k5⟩
 have HB5:Hid (Below w.heap.size w w5):=HB4.out.trans (k5.below (B:=w.heap.size) (fun q hq=> Nat.le_trans HW0.out ((HF4.out.lo q hq).1)) HB4.out.size)
 have HF5:=Aa hf5
 have HFB5:=Aa hfb5
 have hi5:=HF1.out.offer 0
 have HWK:=Aa fun(w':World) (hb:Below w5.heap.size w5 w')=> Vq 0 1 (HF5.out.later hb) hi5.toDw hi5.Wm (hi5.lgk (by decide)) (by decide)
 rw [Ac1,A2,HFB5.out,HFB3.out] at HWK
 have HT9:=Aa (Kj (W:=w5) (w:=w5) (cs:= #[.int .i64 0, .bool false, .int .i64 0]) (t:=33) (Below.refl w5.heap.size w5) rfl)
 have HA9:=Aa (ba w5 (.cells #[.int .i64 0, .bool false, .int .i64 0] 33))
 have HW9:=Aa (HWK.out _ HA9.out)
 have c0:=HT9.out.get (j:=0) rfl
 have c1:=HT9.out.get (j:=1) rfl
 have c2:=HT9.out.get (j:=2) rfl
 clear hf5 hfb5 k5 HO hi5
 go_wp2_with fail
 refine HW9.out.mono ?_
 rintro e w6 ⟨rfl,⟨own6,G6,hf6,_,_⟩,k6⟩
 have HB6:Hid (Below w.heap.size w w6):=HB5.out.trans ((HA9.out.mono HB5.out.size).trans (k6.below (B:=w.heap.size) (fun q hq=> Nat.le_trans HW0.out ((HF5.out.lo q hq).1)) (by have:=HB5.out.size;have:=HA9.out.size;omega)))
 clear hf6 k6 HW9 HWK c0 c1 c2
 go_wp2
 go_ret
 exact⟨rfl,HB6.out⟩
end Go.Proofs.YtbibeionenjmfaaGreatDoor
namespace Go.Proofs.YtbibeionenjmfaaGreatDoor
open Go.RowKit
def Oo (m:Nat) (prog inp:List UInt8) (size:Int):=Cx (Gi [(1,12)] m 1) 0 prog inp size
def Ww (w:World) (m:Nat) (prog inp:List UInt8) (size:Int) (e:Ending) (w':World):Prop:=
 ((Oo m prog inp size).1.2=0∧∃ (own:Nat→Eu) (G:Bb) (o:Bg),e= .returned (.tuple #[.pointer (some ⟨G.fb,0,none⟩),Jl o, .bool true])∧Bv w w' own G (Oo m prog inp size).2∧(Oo m prog inp size).2.Aj[0]?=some o)∨
 ((Oo m prog inp size).1.2≠0∧e= .returned (.tuple #[.pointer none,T7, .bool false]))
theorem Ak2 {m:Nat} {prog inp:List UInt8} {size:Int} (h:(Oo m prog inp size).1.2=0):∃ o,(Oo m prog inp size).2.Aj= [o]:=by
 unfold Oo at h ⊢
 unfold Cx at h ⊢
 dsimp only at h ⊢
 rcases Mo (Gi [(1,12)] m 1) 0 prog inp size with ⟨h1,_⟩ | ⟨h1,_,_,h4,_⟩
 ·rw [if_pos h1] at h;exact absurd h h1
 ·rw [if_neg (by rw [h1];simp)]
  show ∃ o,(Ex (Gi [(1,12)] m 1) 0 prog inp size).2.Aj= [o]
  have h5:(Ex (Gi [(1,12)] m 1) 0 prog inp size).2.Aj.length=1:=h4
  exact List.length_eq_one_iff.1 h5
set_option maxRecDepth 100000 in
set_option maxHeartbeats 4000000 in
theorem Aht (m:Nat) (hm:1≤m∧m≤4) (prog inp:List UInt8) (size:Int) (w:World) (hg:GW w) (hpl:prog.length≤100000) (hil:inp.length≤1000000) (hsz:size≤9223372036854775807):
 Calls Tryz.prog 15 #[.int .i64 m, .string (tx prog), .string (tx inp), .int .i64 size] w fun e w'=> Ww w m prog inp size e w'∧Below w.heap.size w w':=by
 obtain⟨W,hW⟩:∃ W,W=(w.alloc (.cells #[.int .i64 0, .int .i64 0, .int .i64 0, .int .i64 0, .int .i64 0, .bool false] 25)).alloc (.cells #[.int .i64 1, .int .i64 12] 44):=⟨_,rfl⟩
 have hb:Below w.heap.size w W:=by rw [hW];exact(ba w _).alloc (by simp) _
 have hst:Bk W w.heap.size [.int .i64 0, .int .i64 0, .int .i64 0, .int .i64 0, .int .i64 0, .bool false]:=by rw [hW];exact(Bk.new rfl).alloc _
 have hs:Sl 2 B6 W (some ⟨w.heap.size+1,0,none⟩) [(1,12)]:=by
  rw [hW]
  have:=Sl.lit (l:= [((1:Int),(12:Int))]) Ba (Bt (w.alloc (.cells #[.int .i64 0, .int .i64 0, .int .i64 0, .int .i64 0, .int .i64 0, .bool false] 25)) (.cells #[.int .i64 1, .int .i64 12] 44)) rfl
  simpa using this
 have HN:=Aa (Z3 (some ⟨w.heap.size+1,0,none⟩) 1 [(1,12)] m 1 W (hg.later hb (Nat.le_refl _)) hs (fun h=> by cases h) (by decide) hm (by decide))
 have HB:=Aa hb
 have HG:=Aa hg
 have HST:=Aa hst
 have HW:=Aa hW
 have HW0:Hid (w.heap.size < W.heap.size):=hst.lt
 have HI0:Hid (Ky (Gi [(1,12)] m 1) 0):=Qw (by decide) hm (by decide)
 have HPL:=Aa hpl
 have HIL:=Aa hil
 clear hg hb hs hW hst hm
 go_enter Tryz.func15,Tryz.ntmps15
 go_wp2_with fail
 rw [←HW.out]
 clear HW
 refine HN.out.mono ?_
 rintro e w2 ⟨⟨fb,rfl,own,G,rfl,hf0⟩,b2⟩
 have HOUT:Hid (own w.heap.size= .out):=by
  by_cases h:own w.heap.size= .out
  ·exact h
  ·have h1:=(hf0.lo _ h).1
   have h2:=HW0.out
   omega
 have hf:=hf0.Td HB.out HG.out
 have HSU:=Aa (R7 0 size prog inp hf HI0.out.toFz (HI0.out.lgk (by decide) |> fun h=> Nat.le_trans h (by decide)) hpl hil hsz)
 have HSE:Hid (Cx (Gi [(1,12)] m 1) 0 prog inp size=Oo m prog inp size):=rfl
 rw [HSE.out] at HSU
 have HF:=Aa hf
 have HBW2:=Aa (HB.out.trans (b2.mono HB.out.size))
 have HST2:=Aa (HST.out.later b2)
 clear HN hf hf0 b2 hpl hil hsz HSE HST
 have HSJ:=Aa (Ak2 (m:=m) (prog:=prog) (inp:=inp) (size:=size))
 have HPO:Hid (∀ e w',Ww w m prog inp size e w'=(((Oo m prog inp size).1.2=0∧∃ (own:Nat→Eu) (G:Bb) (o:Bg),e= .returned (.tuple #[.pointer (some ⟨G.fb,0,none⟩),Jl o, .bool true])∧Bv w w' own G (Oo m prog inp size).2∧(Oo m prog inp size).2.Aj[0]?=some o)∨
  ((Oo m prog inp size).1.2≠0∧e= .returned (.tuple #[.pointer none,T7, .bool false])))):=fun _ _=> rfl
 generalize Oo m prog inp size=r at *
 obtain⟨⟨r1,er⟩,F1⟩:=r
 dsimp only at HSU HSJ HPO
 by_cases h0:er=0
 ·subst h0
  obtain⟨o,ho⟩:=HSJ.out rfl
  have ho0:F1.Aj[0]?=some o:=by rw [ho];rfl
  rw [A2] at HSU
  have HO:=Aa ho0
  clear HSJ ho ho0
  go_wp2_with fail
  refine HSU.out.mono ?_
  rintro e w3 ⟨rfl,⟨own3,G3,hf3,hfb3,hag3⟩,k3⟩
  have HB3:Hid (Below w.heap.size w w3):=hf3.Gj
  have hst3:=HST2.out.kept k3 (by rw [HOUT.out];simp)
  have HOUT3:Hid (own3 w.heap.size= .out):=(hag3 _ HST2.out.lt).trans HOUT.out
  have hstat:=Mz hf3 HO.out
  rw [show((0:Nat):Int)=0 from rfl,hfb3] at hstat
  have HSTAT:=Aa hstat
  have HF3:=Aa hf3
  have HFB3:=Aa hfb3
  have HST3:=Aa hst3
  clear HSU hf3 hfb3 k3 hag3 hst3 hstat HST2 HBW2
  have HSW:Hid (Jl o= .agg #[.int .i64 o.queue, .int .i64 o.parts.length, .int .i64 (Gb o.parts:Nat), .int .i64 o.slices, .int .i64 (Gb o.Cc:Nat), .bool (decide (Gb o.Cc=o.Cc.length))]):=rfl
  rw [HSW.out] at HSTAT
  generalize (o.queue:Int)=s0 at *
  generalize (o.parts.length:Int)=s1 at *
  generalize ((Gb o.parts:Nat):Int)=s2 at *
  generalize (o.slices:Int)=s3 at *
  generalize ((Gb o.Cc:Nat):Int)=s4 at *
  generalize decide (Gb o.Cc=o.Cc.length)=s5 at *
  go_wp2_with fail
  refine HSTAT.out.mono ?_
  rintro e w4 ⟨rfl,b4⟩
  have hst4:=HST3.out.later b4
  have HF4:=Aa (HF3.out.later b4)
  have HB4:=Aa (HB3.out.trans (b4.mono HB3.out.size))
  obtain⟨W5,hW5⟩:∃ W5,W5=w4.alloc (.cells #[.int .i64 s0, .int .i64 s1, .int .i64 s2, .int .i64 s3, .int .i64 s4, .bool s5] 25):=⟨_,rfl⟩
  have hb5:Below w4.heap.size w4 W5:=by rw [hW5];exact ba w4 _
  have ht5:Bk W5 w4.heap.size [.int .i64 s0, .int .i64 s1, .int .i64 s2, .int .i64 s3, .int .i64 s4, .bool s5]:=by rw [hW5];exact Bk.new rfl
  have HT:=Aa (hst4.later hb5)
  have HF5:=Aa (HF4.out.later hb5)
  have HB5:=Aa (HB4.out.trans (hb5.mono HB4.out.size))
  have HT5:=Aa ht5
  have HW5:=Aa hW5
  have HW4:Hid (w.heap.size < w4.heap.size):=hst4.lt
  clear hst4 b4 hW5 hb5 ht5 HB4 HF4 HSTAT HB3 HST3 HF3
  go_upto_region 8 with (fail)
  rw [←HW5.out]
  have x0:=HT5.out.get (j:=0) rfl
  have x1:=HT5.out.get (j:=1) rfl
  have x2:=HT5.out.get (j:=2) rfl
  have x3:=HT5.out.get (j:=3) rfl
  have x4:=HT5.out.get (j:=4) rfl
  have x5:=HT5.out.get (j:=5) rfl
  have HHD:Hid (Below W5.heap.size W5 W5.drew):=(Below.refl _ _).drew
  clear HW5
  refine wp_region_noPanic ?_
  refine Ah (S:=(fun w'=> Below W5.heap.size W5 w')) (E:= [5]) (by kernel_rfl) ?_ (fun hHeld=> ?_)
  ·(first | exact(Below.refl _ _).drew | exact hHeld)
  try dsimp only [List.size_toArray,List.length_cons,List.length_nil,Nat.reduceAdd]
  refine Ci (i:=0) (oi:={dst:=some 40,op:=Op.move (Operand.tmp 11),type:=23,pos:= "parts.go:266",after:= #[],guard:=none}) (v:=?_) rfl (by kernel_rfl) (by kernel_rfl) (by kernel_rfl) (fun _ _ _ h=> h) (Or.inl ⟨by rfl,?_⟩) ?_
  rotate_left
  ·(intro w _;go_simp;try with_reducible rfl)
  try simp only [Act.put,List.setIfInBounds_toArray,List.set_cons_zero,List.set_cons_succ]
  refine Gz (i:=1) (oi:={dst:=some 41,op:=Op.load 25 (Operand.tmp 13),type:=25,pos:= "parts.go:266",after:= #[{on:=4,ground:=Ground.gcOnly Departure.lateStores}],guard:=none}) (v:=?_) [[1]] rfl (by kernel_rfl) (by kernel_rfl) (by kernel_rfl) (by kernel_rfl) (by kernel_rfl) (fun _ _ _ h=> h) (Or.inl ⟨by rfl,?_⟩) (by assumption) ?_
  rotate_left
  ·(intro w hSw;(try dsimp only at hSw);(have t0:=cell_later hSw x0;have t1:=cell_later hSw x1;have t2:=cell_later hSw x2;have t3:=cell_later hSw x3;have t4:=cell_later hSw x4;have t5:=cell_later hSw x5);go_simp;try with_reducible rfl)
  try simp only [Act.put,List.setIfInBounds_toArray,List.set_cons_zero,List.set_cons_succ]
  refine Ci (i:=2) (oi:={dst:=some 42,op:=Op.move (Operand.tmp 12),type:=29,pos:= "parts.go:266",after:= #[{on:=5,ground:=Ground.gcOnly Departure.lateStores}],guard:=none}) (v:=?_) rfl (by kernel_rfl) (by kernel_rfl) (by kernel_rfl) (fun _ _ _ h=> h) (Or.inl ⟨by rfl,?_⟩) ?_
  rotate_left
  ·(intro w _;go_simp;try with_reducible rfl)
  try simp only [Act.put,List.setIfInBounds_toArray,List.set_cons_zero,List.set_cons_succ]
  refine Ci (i:=3) (oi:={dst:=some 43,op:=Op.binOp BinOp.eql 29 (Operand.tmp 42) (Operand.const Value.nilIface) 29,type:=4,pos:= "parts.go:266",after:= #[{on:=2,ground:=Ground.data},{on:=5,ground:=Ground.gcOnly Departure.lateStores}],guard:=none}) (v:=?_) rfl (by kernel_rfl) (by kernel_rfl) (by kernel_rfl) (fun _ _ _ h=> h) (Or.inl ⟨by rfl,?_⟩) ?_
  rotate_left
  ·(intro w _;go_simp;try with_reducible rfl)
  try simp only [Act.put,List.setIfInBounds_toArray,List.set_cons_zero,List.set_cons_succ]
  refine Ci (i:=4) (oi:={dst:=some 8,op:=Op.assign (Operand.tmp 40),type:=23,pos:= "parts.go:266",after:= #[{on:=0,ground:=Ground.data},{on:=0,ground:=Ground.phase},{on:=1,ground:=Ground.textOnly Departure.lateStores},{on:=2,ground:=Ground.textOnly Departure.lateStores},{on:=3,ground:=Ground.textOnly Departure.lateStores}],guard:=none}) (v:=?_) rfl (by kernel_rfl) (by kernel_rfl) (by kernel_rfl) (fun _ _ _ h=> h) (Or.inl ⟨by rfl,?_⟩) ?_
  rotate_left
  ·(intro w _;go_simp;try with_reducible rfl)
  try simp only [Act.put,List.setIfInBounds_toArray,List.set_cons_zero,List.set_cons_succ]
  refine Dv (rs:= [5]) (by kernel_rfl) (by simp) ?_
  refine Ac.A7 (o:={dst:=none,op:=Op.store 25 (Operand.tmp 9) (Operand.tmp 41),type:=0,pos:= "parts.go:266",after:= #[{on:=1,ground:=Ground.data},{on:=4,ground:=Ground.chain},{on:=0,ground:=Ground.phase},{on:=1,ground:=Ground.phase},{on:=2,ground:=Ground.textOnly Departure.lateStores},{on:=3,ground:=Ground.textOnly Departure.lateStores},{on:=4,ground:=Ground.phase}],guard:=none}) rfl (by kernel_rfl) (fun KH hKH=> ?_) Ac.nil
  generalize W5.drew=W6 at *
  have HTX:=Aa (HT.out.later hHeld)
  have HFX:=Aa (HF5.out.later hHeld)
  have HBX:=Aa (HB5.out.trans (hHeld.mono HB5.out.size))
  have hk9:=HTX.out.s6 (.int .i64 s0) (.int .i64 s1) (.int .i64 s2) (.int .i64 s3) (.int .i64 s4) (.bool s5)
  have c0:=HTX.out.get (j:=0) rfl
  have c1:=HTX.out.get (j:=1) rfl
  have c2:=HTX.out.get (j:=2) rfl
  have c3:=HTX.out.get (j:=3) rfl
  have c4:=HTX.out.get (j:=4) rfl
  have c5:=HTX.out.get (j:=5) rfl
  have z0:=HTX.out.fz 0
  have z1:=HTX.out.fz 1
  have z2:=HTX.out.fz 2
  have z3:=HTX.out.fz 3
  have z4:=HTX.out.fz 4
  have z5:=HTX.out.fz 5
  have f0:=hk9.get (j:=0) rfl
  have f1:=hk9.get (j:=1) rfl
  have f2:=hk9.get (j:=2) rfl
  have f3:=hk9.get (j:=3) rfl
  have f4:=hk9.get (j:=4) rfl
  have f5:=hk9.get (j:=5) rfl
  have y0:=hk9.fz 0
  have y1:=hk9.fz 1
  have y2:=hk9.fz 2
  have y3:=hk9.fz 3
  have y4:=hk9.fz 4
  have y5:=hk9.fz 5
  have HB9:=Aa (Tf (.int .i64 s0) (.int .i64 s1) (.int .i64 s2) (.int .i64 s3) (.int .i64 s4) (.bool s5) HBX.out (Nat.le_refl w.heap.size))
  have HK9:=Aa (Al7 W6 w.heap.size (.int .i64 s0) (.int .i64 s1) (.int .i64 s2) (.int .i64 s3) (.int .i64 s4) (.bool s5))
  clear hk9
  go_simp
  refine hKH.out _ _ ?_
  clear hKH KH
  try clear hHeld
  try simp only [Act.put,List.setIfInBounds_toArray,List.set_cons_zero,List.set_cons_succ]
  refine Ci (i:=6) (oi:={dst:=some 10,op:=Op.assign (Operand.tmp 43),type:=4,pos:= "parts.go:266",after:= #[{on:=3,ground:=Ground.data},{on:=5,ground:=Ground.chain},{on:=0,ground:=Ground.phase},{on:=1,ground:=Ground.phase},{on:=2,ground:=Ground.phase},{on:=3,ground:=Ground.phase},{on:=4,ground:=Ground.phase},{on:=5,ground:=Ground.phase}],guard:=none}) (v:=?_) rfl (by kernel_rfl) (by kernel_rfl) (by kernel_rfl) (fun _ _ _ h=> h) (Or.inl ⟨by rfl,?_⟩) ?_
  rotate_left
  ·(intro w _;go_simp;try with_reducible rfl)
  try simp only [Act.put,List.setIfInBounds_toArray,List.set_cons_zero,List.set_cons_succ]
  refine Ai (by kernel_rfl) ?_ _
  refine NoPanic.normal ?_
  have HFN:=Aa (HFX.out.Alv HK9.out HOUT3.out (Nat.le_refl _))
  go_wp2
  refine bodyPost_ret (v:= .tuple #[.pointer (some ⟨G.fb,0,none⟩), .agg #[.int .i64 s0, .int .i64 s1, .int .i64 s2, .int .i64 s3, .int .i64 s4, .bool s5], .bool true]) (by simp [results,Tryz.results15,go_sem,f0,f1,f2,f3,f4,f5,y0,y1,y2,y3,y4,y5]) rfl ?_
  rw [HPO.out]
  exact⟨.inl ⟨by first | trivial | rfl,own3,G3,o,by rw [HFB3.out,HSW.out],HFN.out,HO.out⟩,HB9.out⟩
 ·rw [A0 h0] at HSU
  go_wp2_with fail
  refine HSU.out.mono ?_
  rintro e w3 ⟨rfl,⟨own3,G3,hf3,hfb3,hag3⟩,k3⟩
  have HB3:Hid (Below w.heap.size w w3):=hf3.Gj
  have hst3:=HST2.out.kept k3 (by rw [HOUT.out];simp)
  have hk9:=hst3.s6 (.int .i64 0) (.int .i64 0) (.int .i64 0) (.int .i64 0) (.int .i64 0) (.bool false)
  have f0:=hk9.get (j:=0) rfl
  have f1:=hk9.get (j:=1) rfl
  have f2:=hk9.get (j:=2) rfl
  have f3:=hk9.get (j:=3) rfl
  have f4:=hk9.get (j:=4) rfl
  have f5:=hk9.get (j:=5) rfl
  have y0:=hk9.fz 0
  have y1:=hk9.fz 1
  have y2:=hk9.fz 2
  have y3:=hk9.fz 3
  have y4:=hk9.fz 4
  have y5:=hk9.fz 5
  have c0:=hst3.get (j:=0) rfl
  have c1:=hst3.get (j:=1) rfl
  have c2:=hst3.get (j:=2) rfl
  have c3:=hst3.get (j:=3) rfl
  have c4:=hst3.get (j:=4) rfl
  have c5:=hst3.get (j:=5) rfl
  have z0:=hst3.fz 0
  have z1:=hst3.fz 1
  have z2:=hst3.fz 2
  have z3:=hst3.fz 3
  have z4:=hst3.fz 4
  have z5:=hst3.fz 5
  have HB9:=Aa (Tf (.int .i64 0) (.int .i64 0) (.int .i64 0) (.int .i64 0) (.int .i64 0) (.bool false) HB3.out (Nat.le_refl w.heap.size))
  clear HSU hf3 hfb3 k3 hag3 hst3 hk9
  go_wp2
  refine bodyPost_ret (v:= .tuple #[.pointer none, .agg #[.int .i64 0, .int .i64 0, .int .i64 0, .int .i64 0, .int .i64 0, .bool false], .bool false]) (by simp [results,Tryz.results15,go_sem,f0,f1,f2,f3,f4,f5,y0,y1,y2,y3,y4,y5]) rfl ?_
  rw [HPO.out]
  exact⟨.inr ⟨h0,rfl⟩,HB9.out⟩
end Go.Proofs.YtbibeionenjmfaaGreatDoor
namespace Go.Proofs.YtbibeionenjmfaaGreatDoor
open Go.RowKit
theorem Ags {m:Nat} (hm:1≤m∧m≤4) {prog inp:List UInt8} {size:Int} (hp:prog.length≤100000) (hi:inp.length≤1000000):Ky (Oo m prog inp size).2 1:=
 (Qw (by decide) hm (by decide)).Ok 0 prog inp size hp hi
structure Aia (w1 wr:World) (fb sb:Nat) (o:Bg) (k:Nat) (F:Ad) (own:Nat→Eu) (G:Bb):Prop where
 fl:Bv w1 wr own G F
 fb:G.fb=fb
 mm:Ez F 1 o.parts.length o.slices (fun _=> 0) k
 fi:Ky F (k+1)
 st:Bk wr sb [.int .i64 o.queue, .int .i64 o.parts.length, .int .i64 (Gb o.parts:Nat), .int .i64 o.slices, .int .i64 (Gb o.Cc:Nat), .bool (decide (Gb o.Cc=o.Cc.length))]
 so:own sb= .out
theorem Ox {wr wc w2:World} {b:Nat} {l:List Value} {own own2:Nat→Eu} (hk:Bk wr b l) (ho:own b= .out) (hb:Below wr.heap.size wr wc) (kb:Ab (fun q=> own q≠ .out) wc w2) (ha:∀ q,q < wc.heap.size→own2 q=own q):Bk w2 b l∧own2 b= .out:=
 ⟨(hk.later hb).kept kb (by rw [ho];simp),(ha b (Nat.lt_of_lt_of_le hk.lt hb.size)).trans ho⟩
theorem Ez.told {F:Ad} {P S k:Nat} {wh:Nat→Nat} (h:Ez F 1 P S wh k) (hk:k≤P+S) (hS:∀ o,F.Aj[0]?=some o→o.slices=o.Cc.length):∃ o mp ou,F.Aj[0]?=some o∧Jl o= .agg #[.int .i64 0, .int .i64 P, .int .i64 (mp:Nat), .int .i64 S, .int .i64 (ou:Nat), .bool (decide (k=P+S))]∧mp+ou=k∧mp=min k P∧ou=k - P:=by
 obtain⟨o,ho,h0,h1,h2,h3,h4⟩:=h.status
 refine⟨o,Gb o.parts,Gb o.Cc,ho,?_,?_,h3,?_⟩
 ·unfold Jl
  rw [hS o ho,h0,h1,h2]
  have:decide (Gb o.Cc=S)=decide (k=P+S):=decide_eq_decide.2 (by have:=h.s1;rw [h4];omega)
  rw [this]
  rfl
 ·rw [h3,h4];omega
 ·rw [h4];omega
theorem Ky.slices {F:Ad} {k:Nat} (h:Ky F k) (o:Bg) (ho:F.Aj[0]?=some o):o.slices=o.Cc.length:=((h.Hj 0 o ho).M4).symm
set_option maxRecDepth 100000 in
set_option maxHeartbeats 8000000 in
theorem Ye (prog inp:List UInt8) (size:Int) (w:World) (hg:GW w) (hpl:prog.length≤maxLen) (hil:inp.length≤maxLen) (hsz: -9223372036854775808≤size∧size≤9223372036854775807):
 Calls Tryz.prog 3 #[.string (tx prog), .string (tx inp), .int .i64 size] w fun e w'=> e= .returned (.bool true)∧Below w.heap.size w w':=by
 have HG:=Aa hg
 have HWK:=Aa (Ahq w hg)
 have HSZ:=Aa hsz.2
 have HSP:=Aa (Ak (l:=prog))
 have HSI:=Aa (Ak (l:=inp))
 unfold maxLen at hpl hil
 clear hg hsz
 obtain⟨tp,htp⟩:∃ tp,tp=tx prog:=⟨_,rfl⟩
 obtain⟨ti,hti⟩:∃ ti,ti=tx inp:=⟨_,rfl⟩
 rw [←htp] at HSP ⊢
 rw [←hti] at HSI ⊢
 have hsp:=HSP.out
 have hsi:=HSI.out
 have HTP:=Aa htp
 have HTI:=Aa hti
 clear htp hti hsp hsi hpl hil
 go_enter Tryz.func3,Tryz.ntmps3
 go_wp2_with fail
 refine HWK.out.mono ?_
 rintro e w1 ⟨rfl,b1⟩
 have HB1:=Aa b1
 clear b1 HWK
 by_cases hp9:900 < tp.size
 ·have f1:decide ((900:Int) < (tp.size:Int))=true:=by simp;omega
  go_wp2
  go_ret
  exact⟨rfl,HB1.out⟩
 ·have f1:decide ((900:Int) < (tp.size:Int))=false:=by simp;omega
  by_cases hi5:5000 < ti.size
  ·have f2:decide ((5000:Int) < (ti.size:Int))=true:=by simp;omega
   go_wp2
   go_ret
   exact⟨rfl,HB1.out⟩
  ·have f2:decide ((5000:Int) < (ti.size:Int))=false:=by simp;omega
   have hp10:prog.length≤100000:=by have:=HSP.out;omega
   have hi10:inp.length≤1000000:=by have:=HSI.out;omega
   have HFR:=Aa (Aht 1 (by decide) prog inp size w1 (HG.out.later HB1.out (Nat.le_refl _)) hp10 hi10 HSZ.out)
   have HFI:=Aa (Ags (m:=1) (size:=size) (by decide) hp10 hi10)
   rw [show((1:Nat):Int)=1 from rfl,←HTP.out,←HTI.out] at HFR
   clear hp9 hi5 hp10 hi10
   go_wp2_with fail
   refine HFR.out.mono ?_
   rintro e w2 ⟨hfp,b2⟩
   have HB2:=Aa (HB1.out.trans (b2.mono HB1.out.size))
   have hms:=Adc (m:=1) (by decide) (prog:=prog) (inp:=inp) (size:=size)
   have hse:Cx (Gi [(1,12)] 1 1) 0 prog inp size=Oo 1 prog inp size:=rfl
   rw [hse] at hms
   have HMS:=Aa hms
   clear HFR b2 hms hse
   rcases hfp with ⟨h0,own,G,o,rfl,hf,ho⟩ | ⟨h0,rfl⟩
   ·obtain⟨o',hj,_,hmm⟩:=HMS.out h0 (fun _=> 0)
    rw [hj] at ho
    injection ho with ho
    subst ho
    have hsl:=HFI.out.slices o' (by rw [hj];rfl)
    rw [←hsl] at hmm
    have HSL:=Aa hsl
    have hP:=(HFI.out.Hj 0 o' (by rw [hj];rfl)).Ln
    have hS:=(HFI.out.Hj 0 o' (by rw [hj];rfl)).Aeg
    unfold Jl
    obtain⟨W2,hW2⟩:∃ W2,W2=w2.alloc (.cells #[.int .i64 o'.queue, .int .i64 o'.parts.length, .int .i64 (Gb o'.parts:Nat), .int .i64 o'.slices, .int .i64 (Gb o'.Cc:Nat), .bool (decide (Gb o'.Cc=o'.Cc.length))] 25):=⟨_,rfl⟩
    have hb2:Below w2.heap.size w2 W2:=by rw [hW2];exact ba w2 _
    have HR0:Hid (∃ F own G',Aia w1 W2 G.fb w2.heap.size o' 0 F own G'):=⟨_,own,G,hf.later hb2,rfl,hmm,HFI.out,by rw [hW2];exact Bk.new rfl,hf.Dg (Nat.le_refl _)⟩
    have HW2:=Aa hW2
    clear hf hj hmm hsl h0 hW2 hb2 HFI HMS
    generalize G.fb=fb at *
    go_upto_region 7 with (fail)
    rw [←HW2.out]
    generalize w2.heap.size=sb at *
    generalize hPq:o'.parts.length=P at *
    generalize hSq:o'.slices=S at *
    clear HW2
    go_wp2
    go_loopw [10] (fun iv wr=> ∃ k:Nat,k≤P+S∧iv= .int .i64 k∧Hid (∃ F own G,Aia w1 wr fb sb o' k F own G)) (fun iv _=> P+S - (intOf iv).toNat)
    case atStart=> exact⟨0,by omega,by go_num,HR0⟩
    case round=>
     clear HR0
     obtain⟨k,hk,rfl,HR⟩:=hrel
     obtain⟨F,own,G,hr⟩:=HR.out
     have x1:=hr.st.get (j:=1) rfl
     have x3:=hr.st.get (j:=3) rfl
     rw [hPq] at x1
     rw [hSq] at x3
     by_cases hlt:k < P+S
     ·have e1:decide (k < P+S)=true:=by simpa using hlt
      have e2:decide ((k:Int) < (P:Int)+(S:Int))=true:=by simp;omega
      obtain⟨o1,mp,ou,ho1,hsw,hsum,hq1,hq2⟩:=hr.mm.told (by rw [hPq,hSq];exact hk) (fun o ho=> hr.fi.slices o ho)
      rw [hPq,hSq,show decide (k=P+S)=false by simp;omega] at hsw
      have hstat:=Mz hr.fl ho1
      rw [show((0:Nat):Int)=0 from rfl,hr.fb,hsw] at hstat
      have hoff:=hr.mm.offer (w:=0) (by omega)
      rw [hPq,hSq,if_pos hlt,show((0:Nat):Int)=0 from rfl] at hoff
      have hof:=fun(w':World) (hb:Below wr.heap.size wr w')=> Oe 0 (hr.fl.later hb) hr.mm.toFz
      rw [hoff,hr.fb,A2] at hof
      obtain⟨fo,hfo⟩:∃ fo,decide (P≤k)=fo:=⟨_,rfl⟩
      obtain⟨ix,hix⟩:∃ ix,(if k < P then k else k - P)=ix:=⟨_,rfl⟩
      have htw:Cu (B9 P k)= .agg #[.int .i64 0, .bool fo, .int .i64 ix]:=by unfold B9 Cu;rw [hfo,hix];rfl
      have hwk:=hr.mm.work (w:=0) (by rw [hPq,hSq];exact hlt) (by omega) (fun _=> rfl) (many:=1048576) (by decide) (fun p hp=> hr.mm.toFz.mb _ p hp)
      rw [hPq,hSq,show((0:Nat):Int)=0 from rfl] at hwk
      have hfi:=hr.fi.offer 0
      rw [hoff] at hfi
      dsimp only at hof hfi
      rw [htw] at hof
      have HSTAT:=Aa hstat
      have HOF:=Aa hof
      have HWK:=Aa hwk
      have HFI:=Aa hfi
      have HRR:=Aa hr
      have hmo:mp≤1000∧ou≤1000:=by omega
      have e3:((mp:Int)+(ou:Int) !=(k:Int))=false:=by simp;omega
      have e4:(mp+ou !=k)=false:=by simp;omega
      have e5:(fo !=fo)=false:=by simp
      clear hstat hof hwk hfi hr HR hsum hsw hoff ho1 htw hix hq1 hq2
      go_wp2_with fail
      refine HSTAT.out.mono ?_
      rintro e w3 ⟨rfl,b3⟩
      obtain⟨W3,hW3⟩:∃ W3,W3=w3.alloc (.cells #[.int .i64 0, .int .i64 P, .int .i64 mp, .int .i64 S, .int .i64 ou, .bool false] 25):=⟨_,rfl⟩
      have hb3:Below w3.heap.size w3 W3:=by rw [hW3];exact ba w3 _
      have hn3:Bk W3 w3.heap.size [.int .i64 0, .int .i64 P, .int .i64 mp, .int .i64 S, .int .i64 ou, .bool false]:=by rw [hW3];exact Bk.new rfl
      have HB3:=Aa (b3.trans (hb3.mono b3.size))
      have HNO:Hid (own w3.heap.size= .out):=HRR.out.fl.Dg b3.size
      have HN3:=Aa hn3
      have HOF3:=Aa (HOF.out W3 HB3.out)
      have HW3:=Aa hW3
      clear b3 hb3 hn3 hW3 HOF HSTAT x1 x3
      go_upto_region 13 with (fail)
      rw [←HW3.out]
      clear HW3
      go_wp2_with fail
      refine HOF3.out.mono ?_
      rintro e w4 ⟨rfl,⟨own4,G4,hf4,hfb4,hag4⟩,k4⟩
      obtain⟨hn4,hno4⟩:=Ox HN3.out HNO.out (Below.refl _ _) k4 hag4
      obtain⟨hs4,hso4⟩:=Ox HRR.out.st HRR.out.so HB3.out k4 hag4
      have hwr:=fun(w':World) (hb:Below w4.heap.size w4 w')=> Vq 0 1048576 (hf4.later hb) (Ky.toDw HFI.out) HFI.out.Wm (HFI.out.lgk (by omega)) (by decide)
      rw [HWK.out.1,A2,hfb4,HRR.out.fb] at hwr
      obtain⟨W5,hW5⟩:∃ W5,W5=w4.alloc (.cells #[.int .i64 0, .bool fo, .int .i64 ix] 33):=⟨_,rfl⟩
      have hb5:Below w4.heap.size w4 W5:=by rw [hW5];exact ba w4 _
      have ht5:Bk W5 w4.heap.size [.int .i64 0, .bool fo, .int .i64 ix]:=by rw [hW5];exact Bk.new rfl
      have hn5:=hn4.later hb5
      have hs5:=hs4.later hb5
      rw [hPq,hSq] at hs5
      have HWR:=Aa (hwr W5 hb5)
      have HB5:=Aa hb5
      have HF4:=Aa hf4
      have HFB4:=Aa hfb4
      have HS4:=Aa hs4
      have HSO4:=Aa hso4
      have HW5:=Aa hW5
      clear hf4 hfb4 hag4 k4 hn4 hno4 hs4 hso4 hwr hb5 hW5 HOF3 HN3 HNO
      go_upto_region 14 with (fail)
      rw [←HW5.out]
      clear HW5
      have x1:=hs5.get (j:=1) rfl
      have x3:=hs5.get (j:=3) rfl
      have y2:=hn5.get (j:=2) rfl
      have y4:=hn5.get (j:=4) rfl
      have y5:=hn5.get (j:=5) rfl
      have y1:=ht5.get (j:=1) rfl
      clear hs5 hn5 ht5
      go_wp2_with fail
      refine HWR.out.mono ?_
      rintro e w6 ⟨rfl,⟨own6,G6,hf6,hfb6,hag6⟩,k6⟩
      obtain⟨hs6,hso6⟩:=Ox HS4.out HSO4.out HB5.out k6 hag6
      have HNEXT:Hid (∃ F own G,Aia w1 w6 fb sb o' (k+1) F own G):=⟨_,own6,G6,hf6,(hfb6.trans HFB4.out).trans HRR.out.fb,by rw [hPq,hSq];exact HWK.out.2,HFI.out.work 0 1048576,hs6,hso6⟩
      clear hf6 hfb6 hag6 k6 hs6 hso6 HWR x1 x3 y1 y2 y4 y5 HRR HB3 HFI HWK HB5 HF4 HFB4 HS4 HSO4
      go_wp2
      go_roundw
      case rel=> exact⟨k+1,by omega,by go_num,HNEXT⟩
      case measure=> (simp [intOf];try omega)
     ·obtain rfl:k=P+S:=by omega
      have e1:decide (P+S < P+S)=false:=by simp
      have e2:decide (((P+S:Nat):Int) < (P:Int)+(S:Int))=false:=by simp
      obtain⟨o1,mp,ou,ho1,hsw,_,hq1,hq2⟩:=hr.mm.told (by rw [hPq,hSq];exact hk) (fun o ho=> hr.fi.slices o ho)
      rw [hPq,hSq,show decide (P+S=P+S)=true by simp] at hsw
      rw [hPq] at hq1 hq2
      have hm1:mp=P:=by omega
      have hm2:ou=S:=by omega
      rw [hm1,hm2] at hsw
      have hstat:=Mz hr.fl ho1
      rw [show((0:Nat):Int)=0 from rfl,hr.fb,hsw] at hstat
      have hoff:=hr.mm.offer (w:=0) (by omega)
      rw [hPq,hSq,if_neg (by omega),show((0:Nat):Int)=0 from rfl] at hoff
      have hof:=fun(w':World) (hb:Below wr.heap.size wr w')=> Oe 0 (hr.fl.later hb) hr.mm.toFz
      rw [hoff,hr.fb,A0 (show(5:Int)≠0 by decide),show Cu F4= .agg #[.int .i64 0, .bool false, .int .i64 0] from rfl] at hof
      have HNUM:=Aa (Yv 5)
      rw [A0 (show(5:Int)≠0 by decide)] at HNUM
      have HSTAT:=Aa hstat
      have HOF:=Aa hof
      have HRR:=Aa hr
      clear hstat hof hr HR hsw hoff ho1 hq1 hq2 hm1 hm2
      go_wp2_with fail
      refine HSTAT.out.mono ?_
      rintro e w3 ⟨rfl,b3⟩
      obtain⟨W3,hW3⟩:∃ W3,W3=w3.alloc (.cells #[.int .i64 0, .int .i64 P, .int .i64 P, .int .i64 S, .int .i64 S, .bool true] 25):=⟨_,rfl⟩
      have hb3:Below w3.heap.size w3 W3:=by rw [hW3];exact ba w3 _
      have hn3:Bk W3 w3.heap.size [.int .i64 0, .int .i64 P, .int .i64 P, .int .i64 S, .int .i64 S, .bool true]:=by rw [hW3];exact Bk.new rfl
      have HB3:=Aa (b3.trans (hb3.mono b3.size))
      have HNO:Hid (own w3.heap.size= .out):=HRR.out.fl.Dg b3.size
      have HN3:=Aa hn3
      have HOF3:=Aa (HOF.out W3 HB3.out)
      have HW3:=Aa hW3
      clear b3 hb3 hn3 hW3 HOF HSTAT x1 x3
      go_upto_region 19 with (fail)
      rw [←HW3.out]
      clear HW3
      go_wp2_with fail
      refine HOF3.out.mono ?_
      rintro e w4 ⟨rfl,⟨own4,G4,hf4,hfb4,hag4⟩,k4⟩
      obtain⟨hn4,_⟩:=Ox HN3.out HNO.out (Below.refl _ _) k4 hag4
      obtain⟨hs4,_⟩:=Ox HRR.out.st HRR.out.so HB3.out k4 hag4
      have HBE:Hid (Below w.heap.size w w4):=HB1.out.trans (hf4.Gj.mono HB1.out.size)
      have ht5:Bk (w4.alloc (.cells #[.int .i64 0, .bool false, .int .i64 0] 33)) w4.heap.size [.int .i64 0, .bool false, .int .i64 0]:=Bk.new rfl
      rw [hPq,hSq] at hs4
      have hn5:=hn4.later (ba w4 (.cells #[.int .i64 0, .bool false, .int .i64 0] 33))
      have hs5:=hs4.later (ba w4 (.cells #[.int .i64 0, .bool false, .int .i64 0] 33))
      have x1:=hs5.get (j:=1) rfl
      have x3:=hs5.get (j:=3) rfl
      have y2:=hn5.get (j:=2) rfl
      have y4:=hn5.get (j:=4) rfl
      have y5:=hn5.get (j:=5) rfl
      clear hf4 hfb4 hag4 k4 hn4 hs4 HOF3 HN3 HNO HRR HB3 hs5 hn5 ht5
      go_wp2_with fail
      refine(HNUM.out _).mono ?_
      rintro e w6 ⟨rfl,rfl⟩
      have HBF:=Aa (HBE.out.alloc HBE.out.size (.cells #[.int .i64 0, .bool false, .int .i64 0] 33))
      clear x1 x3 y2 y4 y5 HNUM
      go_wp2
      go_ret
      exact⟨rfl,HBF.out⟩
   ·unfold T7
    go_wp2
    go_ret
    exact⟨rfl,HB2.out.alloc HB2.out.size _⟩
end Go.Proofs.YtbibeionenjmfaaGreatDoor
