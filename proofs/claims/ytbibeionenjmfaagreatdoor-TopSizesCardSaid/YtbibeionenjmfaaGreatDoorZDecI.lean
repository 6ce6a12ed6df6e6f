/- The reference: a number's text. -/
import Derived.Test.YtbibeionenjmfaaGreatDoorZStd
import Derived.Test.YtbibeionenjmfaaGreatDoorZKeys
set_option linter.unusedSimpArgs false
set_option linter.unusedVariables false
namespace Go.Proofs.YtbibeionenjmfaaGreatDoor
open Go.RowKit
def Dg (l:List UInt8):Bool:=(Sv l).isSome
theorem Ur (l:List UInt8):Dg l=(Mg l && decide (Lib.itoa (Ci l)=l)):=by
 unfold Dg Sv Mg Ci
 cases h:Lib.atoiAll l
 ·simp only [Bool.true_and]
  split <;> rename_i h2
  ·rw [decide_eq_true h2];rfl
  ·rw [decide_eq_false h2];rfl
 ·rfl
 ·rfl
theorem Kv {l:List UInt8} (h:Dg l=true):Sv l=some (Ci l):=by
 have h2:=h
 rw [Ur] at h2
 simp only [Bool.and_eq_true,decide_eq_true_eq] at h2
 unfold Dg at h
 obtain⟨v,hv⟩:=Option.isSome_iff_exists.1 h
 rw [hv]
 unfold Sv at hv
 unfold Ci
 revert hv
 cases Lib.atoiAll l
 ·intro hv
  simp only at hv ⊢
  split at hv
  ·exact hv.symm
  ·cases hv
 ·intro hv;cases hv
 ·intro hv;cases hv
theorem Tl {l:List UInt8}: -9223372036854775808≤Ci l∧Ci l≤9223372036854775807:=by
 unfold Ci
 cases h:Lib.atoiAll l
 ·exact Lib.atoiAll_bounds h
 ·exact⟨show(-9223372036854775808:Int)≤0 by decide,show(0:Int)≤9223372036854775807 by decide⟩
 ·exact Lib.atoiSat_bounds l
set_option maxRecDepth 100000 in
set_option maxHeartbeats 1000000 in
theorem On (s:ByteArray) (c:UInt8) (w:World) (hg:GW w) (hs:s.size≤10000000):
 Calls Tryz.prog 153 #[.string s, .string ⟨#[c]⟩] w fun e w'=> e= .returned (.tuple #[.int .i64 (Ci (cutAt c s.data.toList).1), .string (tx (cutAt c s.data.toList).2.1), .bool ((cutAt c s.data.toList).2.2 && Dg (cutAt c s.data.toList).1)])∧Below w.heap.size w w':=by
 have HC:=Aa (Sy s c w hg.gm hs)
 have hl:=(Km c s.data.toList).1
 rw [Fw] at hl
 generalize cutAt c s.data.toList=q at *
 obtain⟨A,B,ok⟩:=q
 dsimp only at HC hl ⊢
 have HG:=Aa hg
 clear hg
 go_enter Tryz.func153,Tryz.ntmps153
 go_wp2_with fail
 refine HC.out.mono ?_
 rintro e w1 ⟨rfl,b1⟩
 have HB1:=Aa b1
 have HG1:=Aa (HG.out.later b1 (Nat.le_refl _))
 have HA:=Aa (Tb (tx A) w1 HG1.out (by rw [Am];omega))
 rw [Ap] at HA
 clear HC HG b1
 go_wp2_with fail
 refine HA.out.mono ?_
 rintro e w2 ⟨⟨ev,rfl,hev⟩,b2⟩
 have HB2:=Aa (HB1.out.trans (b2.mono HB1.out.size))
 have HG2:=Aa (HG1.out.later b2 (Nat.le_refl _))
 have HN:=Aa (Ur A)
 have HV:=Aa (Tl (l:=A))
 clear HA HB1 HG1 b2
 cases ok
 ·go_wp2
  all_goals
   go_ret3
   exact⟨rfl,HB2.out⟩
 ·rcases hev with ⟨ho,rfl⟩ | ⟨ho,t,v,rfl⟩
  ·have HI:=Aa (Gc (Ci A) w2 HG2.out HV.out.1 HV.out.2)
   have HO:=Aa ho
   clear ho
   generalize hvv:Ci A=v at *
   have HVV:=Aa hvv
   clear hvv
   go_wp2_with fail
   refine HI.out.mono ?_
   rintro e w3 ⟨rfl,b3⟩
   have HB3:=Aa (HB2.out.trans (b3.mono HB2.out.size))
   clear HI b3
   go_wp2
   go_ret3
   refine⟨?_,HB3.out⟩
   rw [HN.out,HO.out,HVV.out]
   show Ending.returned (.tuple #[.int .i64 v, .string (tx B), .bool ((tx (Lib.itoa v)).toList ==(tx A).toList)])=_
   rw [tl,tl,Ap,Ap]
   by_cases he:Lib.itoa v=A
   ·rw [he];simp
   ·rw [decide_eq_false he,show(Lib.itoa v ==A)=false by rw [beq_eq_false_iff_ne];exact he];rfl
  ·have HO:=Aa ho
   clear ho
   go_wp2
   go_ret3
   refine⟨?_,HB2.out⟩
   rw [HN.out,HO.out]
   rfl
end Go.Proofs.YtbibeionenjmfaaGreatDoor
namespace Go.Proofs.YtbibeionenjmfaaGreatDoor
open Go.RowKit
theorem Adb {n:Nat} (h:n < 10):tx (Lib.decDigits n)=⟨#[UInt8.ofNat (48+n)]⟩:=by
 rw [Lib.decDigits_one h];rfl
theorem Aaa (w:World) (b:Nat) (c:Int) (h0:0≤c) (h1:c≤255) (h:w.cell? ⟨b,0,none⟩=some (.int .u8 c)):
 (convert 220 9 (.slice (some ⟨b,0,none⟩) 1 1)).run Tryz.prog w= .ok (.string ⟨#[UInt8.ofNat c.toNat]⟩) w:=by
 have:=run_convert_bytes_back (P:=Tryz.prog) w 220 9 5 ⟨b,0,none⟩ 1 [UInt8.ofNat c.toNat] Tryz.underlying220 Tryz.underlying5 Tryz.underlying9 (fun j hj=> by
  obtain rfl:j=0:=by simpa using hj
  have e:(⟨b,0,none⟩:Addr).add 0=⟨b,0,none⟩:=by unfold Addr.add;split <;> simp_all
  rw [e,h]
  congr 2
  show c=(((UInt8.ofNat c.toNat).toNat:Nat):Int)
  rw [Aez (by omega)];omega)
 simpa using this
set_option maxRecDepth 100000 in
set_option maxHeartbeats 1000000 in
theorem Rh (N:Nat):∀ (n:Nat) (w:World),n≤N→n≤9223372036854775807→
 Calls Tryz.prog 147 #[.int .i64 n] w fun e w'=> e= .returned (.string (tx (Lib.decDigits n)))∧Below w.heap.size w w':=by
 induction N using Nat.strongRecOn with
 | _ N ih=>
   intro n w hn hmax
   have e0:decide ((n:Int) < 0)=false:=by simp
   by_cases h10:n < 10
   ·have e1:decide ((n:Int) < 10)=true:=by simp;omega
    have HD:=Aa (Adb h10)
    have hcv:=Aaa (w.alloc (.cells #[.int .u8 (48+(n:Int))] 5)) w.heap.size (48+n) (by omega) (by omega) ((Bk.new rfl).get (j:=0) rfl)
    have HB:Hid (Below w.heap.size w (w.alloc (.cells #[.int .u8 (48+(n:Int))] 5))):=(Below.refl _ _).alloc (Nat.le_refl _) _
    go_enter Tryz.func147,Tryz.ntmps147
    go_wp2
    go_ret
    refine⟨?_,HB.out⟩
    rw [HD.out]
    rfl
   ·have e1:decide ((n:Int) < 10)=false:=by simp;omega
    have HX:=Aa fun w'=> ih (n / 10) (by omega) (n / 10) w' (Nat.le_refl _) (by omega)
    have hq:(n:Int) / 10=((n / 10:Nat):Int):=by omega
    have hr:(n:Int) % 10=((n % 10:Nat):Int):=by omega
    have hm:n % 10≤9:=by omega
    have HD:Hid (Lib.decDigits n=Lib.decDigits (n / 10)++ [UInt8.ofNat (48+n % 10)]):=by
     show _=_
     conv=> lhs;rw [Lib.decDigits,dif_neg h10]
    generalize n / 10=q at *
    generalize n % 10=r at *
    have hcv:∀ (w':World) (b:Nat),w'.cell? ⟨b,0,none⟩=some (.int .u8 (48+(r:Int)))→(convert 220 9 (.slice (some ⟨b,0,none⟩) 1 1)).run Tryz.prog w'= .ok (.string ⟨#[UInt8.ofNat (48+r)]⟩) w':=fun w' b h=> by
     have:=Aaa w' b _ (by omega) (by omega) h
     rwa [show(48+(r:Int)).toNat=48+r by omega] at this
    go_enter Tryz.func147,Tryz.ntmps147
    have hz:¬ (9223372036854775807 < (tx (Lib.decDigits q)).size+1):=by
     have:=Lk (u:=q) (by omega)
     rw [Am];omega
    obtain⟨c,hc⟩:∃ c,UInt8.ofNat (48+r)=c:=⟨_,rfl⟩
    rw [hc] at hcv HD
    have HE:Hid (tx (Lib.decDigits q)++⟨#[c]⟩=tx (Lib.decDigits n)):=by
     show _=_
     rw [HD.out]
     apply Dc
     rw [tl,tl,Ap]
     simp [tx,ByteArray.data_append]
    clear hc
    have hq2:IntKind.i64.wrap (q:Int)=(q:Int):=IntWalk.i64_in _ (by omega)
    have hr1:(n:Int).tmod 10=(r:Int):=by rw [Int.tmod_eq_emod_of_nonneg (by omega)];exact hr
    have hs1:IntKind.i64.wrap (48+(r:Int))=48+(r:Int):=IntWalk.i64_in _ (by omega)
    have hs2:IntKind.u8.wrap (48+(r:Int))=48+(r:Int):=IntWalk.u8_in _ (by omega)
    go_upto_region 7 with (fail)
    refine wp_region_noPanic ?_
    refine wp_region_held_drew (S:=(fun w'=> Below w.heap.size w w')) (by kernel_rfl) ?_ (fun hHeld=> ?_)
    ·(first | exact(Below.refl _ _).drew | exact hHeld | exact hHeld.alloc hHeld.size _ | exact hHeld.trans (b1.mono hHeld.size))
    try dsimp only [List.size_toArray,List.length_cons,List.length_nil,Nat.reduceAdd]
    refine wpAnyH_take (i:=0) (oi:={dst:=some 18,op:=Op.move (Operand.tmp 0),type:=3,pos:= "parts.go:83",after:= #[],guard:=none}) (v:=?_) rfl (by kernel_rfl) (by kernel_rfl) (by kernel_rfl) (fun _ _ _ h=> h) (Or.inl ⟨by rfl,?_⟩) (by assumption) ?_
    rotate_left
    ·(intro w hSw;(try dsimp only at hSw);go_simp;try with_reducible rfl)
    try simp only [Act.put,List.setIfInBounds_toArray,List.set_cons_zero,List.set_cons_succ]
    refine wpAnyH_take (i:=1) (oi:={dst:=some 19,op:=Op.binOp BinOp.quo 3 (Operand.tmp 18) (Operand.const (Value.int IntKind.i64 10)) 3,type:=3,pos:= "parts.go:83",after:= #[{on:=0,ground:=Ground.data}],guard:=none}) (v:=?_) rfl (by kernel_rfl) (by kernel_rfl) (by kernel_rfl) (fun _ _ _ h=> h) (Or.inl ⟨by rfl,?_⟩) (by assumption) ?_
    rotate_left
    ·(intro w hSw;(try dsimp only at hSw);go_simp;try with_reducible rfl)
    try simp only [Act.put,List.setIfInBounds_toArray,List.set_cons_zero,List.set_cons_succ]
    refine wpAnyH_take (i:=3) (oi:={dst:=some 21,op:=Op.move (Operand.tmp 0),type:=3,pos:= "parts.go:83",after:= #[],guard:=none}) (v:=?_) rfl (by kernel_rfl) (by kernel_rfl) (by kernel_rfl) (fun _ _ _ h=> h) (Or.inl ⟨by rfl,?_⟩) (by assumption) ?_
    rotate_left
    ·(intro w hSw;(try dsimp only at hSw);go_simp;try with_reducible rfl)
    try simp only [Act.put,List.setIfInBounds_toArray,List.set_cons_zero,List.set_cons_succ]
    refine wpAnyH_take (i:=4) (oi:={dst:=some 22,op:=Op.binOp BinOp.rem 3 (Operand.tmp 21) (Operand.const (Value.int IntKind.i64 10)) 3,type:=3,pos:= "parts.go:83",after:= #[{on:=3,ground:=Ground.data}],guard:=none}) (v:=?_) rfl (by kernel_rfl) (by kernel_rfl) (by kernel_rfl) (fun _ _ _ h=> h) (Or.inl ⟨by rfl,?_⟩) (by assumption) ?_
    rotate_left
    ·(intro w hSw;(try dsimp only at hSw);go_simp;try with_reducible rfl)
    try simp only [Act.put,List.setIfInBounds_toArray,List.set_cons_zero,List.set_cons_succ]
    refine wpAnyH_take (i:=5) (oi:={dst:=some 23,op:=Op.binOp BinOp.add 3 (Operand.const (Value.int IntKind.i64 48)) (Operand.tmp 22) 3,type:=3,pos:= "parts.go:83",after:= #[{on:=4,ground:=Ground.data}],guard:=none}) (v:=?_) rfl (by kernel_rfl) (by kernel_rfl) (by kernel_rfl) (fun _ _ _ h=> h) (Or.inl ⟨by rfl,?_⟩) (by assumption) ?_
    rotate_left
    ·(intro w hSw;(try dsimp only at hSw);go_simp;try with_reducible rfl)
    try simp only [Act.put,List.setIfInBounds_toArray,List.set_cons_zero,List.set_cons_succ]
    refine wpAnyH_take (i:=6) (oi:={dst:=some 24,op:=Op.convert 3 5 (Operand.tmp 23),type:=5,pos:= "parts.go:83",after:= #[{on:=5,ground:=Ground.data}],guard:=none}) (v:=?_) rfl (by kernel_rfl) (by kernel_rfl) (by kernel_rfl) (fun _ _ _ h=> h) (Or.inl ⟨by rfl,?_⟩) (by assumption) ?_
    rotate_left
    ·(intro w hSw;(try dsimp only at hSw);go_simp;try with_reducible rfl)
    try simp only [Act.put,List.setIfInBounds_toArray,List.set_cons_zero,List.set_cons_succ]
    refine wpAnyH_ready (rs:= [2,7]) (by kernel_rfl) (by simp) ?_
    refine(AllReadyH.cons (o:={dst:=some 20,op:=Op.call {callee:=Callee.value (Operand.func 147),args:= #[Operand.tmp 19],argTypes:= #[3]},type:=9,pos:= "parts.go:83",after:= #[{on:=1,ground:=Ground.data}],guard:=none}) rfl (fun KH hKH=> ?_) (AllReadyH.cons (o:={dst:=some 25,op:=Op.buildSlice 220 1 #[(0,Operand.tmp 24)],type:=220,pos:= "parts.go:83",after:= #[{on:=6,ground:=Ground.data}],guard:=none}) rfl (fun KH hKH=> ?_) AllReadyH.nil))
    ·go_simp
     ((go_at_call 147;refine(HX.out _).mono ?_;rintro e w1 ⟨rfl,b1⟩);try (have hk1:=cell_later b1 ((Bk.new (cs:= #[.int .u8 (48+(r:Int))]) (t:=5) rfl).get (j:=0) rfl)))
     try go_wp2_with fail
     refine hKH.out _ _ ?_ (fun hNew=> ?_)
     ·(first | exact(Below.refl _ _).drew | exact hHeld | exact hHeld.alloc hHeld.size _ | exact hHeld.trans (b1.mono hHeld.size))
     clear hKH KH hHeld
     have hHeld:=hNew
     clear hNew
     refine wpAnyH_ready (rs:= [7]) (by kernel_rfl) (by simp) ?_
     refine AllReadyH.cons (o:={dst:=some 25,op:=Op.buildSlice 220 1 #[(0,Operand.tmp 24)],type:=220,pos:= "parts.go:83",after:= #[{on:=6,ground:=Ground.data}],guard:=none}) rfl (fun KH hKH=> ?_) AllReadyH.nil
     go_simp
     refine hKH.out _ _ ?_ (fun hNew=> ?_)
     ·(first | exact(Below.refl _ _).drew | exact hHeld | exact hHeld.alloc hHeld.size _ | exact hHeld.trans (b1.mono hHeld.size))
     clear hKH KH hHeld
     have hHeld:=hNew
     clear hNew
     refine wpAnyH_ready (rs:= [8]) (by kernel_rfl) (by simp) ?_
     refine AllReadyH.cons (o:={dst:=some 26,op:=Op.convert 220 9 (Operand.tmp 25),type:=9,pos:= "parts.go:83",after:= #[{on:=7,ground:=Ground.data}],guard:=none}) rfl (fun KH hKH=> ?_) AllReadyH.nil
     go_simp
     refine hKH.out _ _ ?_ (fun hNew=> ?_)
     ·(first | exact(Below.refl _ _).drew | exact hHeld | exact hHeld.alloc hHeld.size _ | exact hHeld.trans (b1.mono hHeld.size))
     clear hKH KH hHeld
     have hHeld:=hNew
     clear hNew
     refine wpAnyH_take (i:=9) (oi:={dst:=some 27,op:=Op.binOp BinOp.add 9 (Operand.tmp 20) (Operand.tmp 26) 9,type:=9,pos:= "parts.go:83",after:= #[{on:=2,ground:=Ground.data},{on:=8,ground:=Ground.data}],guard:=none}) (v:=?_) rfl (by kernel_rfl) (by kernel_rfl) (by kernel_rfl) (fun _ _ _ h=> h) (Or.inl ⟨by rfl,?_⟩) (by assumption) ?_
     rotate_left
     ·(intro w hSw;(try dsimp only at hSw);go_simp;try with_reducible rfl)
     try simp only [Act.put,List.setIfInBounds_toArray,List.set_cons_zero,List.set_cons_succ]
     refine wpAnyH_take (i:=10) (oi:={dst:=some 2,op:=Op.assign (Operand.tmp 27),type:=9,pos:= "parts.go:83",after:= #[{on:=9,ground:=Ground.data},{on:=2,ground:=Ground.chain},{on:=0,ground:=Ground.phase},{on:=1,ground:=Ground.phase},{on:=2,ground:=Ground.phase},{on:=3,ground:=Ground.phase},{on:=4,ground:=Ground.phase},{on:=5,ground:=Ground.phase},{on:=6,ground:=Ground.phase},{on:=7,ground:=Ground.phase},{on:=8,ground:=Ground.phase},{on:=9,ground:=Ground.phase}],guard:=none}) (v:=?_) rfl (by kernel_rfl) (by kernel_rfl) (by kernel_rfl) (fun _ _ _ h=> h) (Or.inl ⟨by rfl,?_⟩) (by assumption) ?_
     rotate_left
     ·(intro w hSw;(try dsimp only at hSw);go_simp;try with_reducible rfl)
     try simp only [Act.put,List.setIfInBounds_toArray,List.set_cons_zero,List.set_cons_succ]
     refine wpAnyH_done (by kernel_rfl) ?_ _
     refine NoPanic.normal ?_
     go_wp2
     go_ret
     exact⟨congrArg (fun x=> Ending.returned (.string x)) HE.out,hHeld⟩
    ·go_simp
     refine hKH.out _ _ ?_ (fun hNew=> ?_)
     ·(first | exact(Below.refl _ _).drew | exact hHeld | exact hHeld.alloc hHeld.size _ | exact hHeld.trans (b1.mono hHeld.size))
     clear hKH KH hHeld
     have hHeld:=hNew
     clear hNew
     refine wpAnyH_ready (rs:= [2,8]) (by kernel_rfl) (by simp) ?_
     refine(AllReadyH.cons (o:={dst:=some 20,op:=Op.call {callee:=Callee.value (Operand.func 147),args:= #[Operand.tmp 19],argTypes:= #[3]},type:=9,pos:= "parts.go:83",after:= #[{on:=1,ground:=Ground.data}],guard:=none}) rfl (fun KH hKH=> ?_) (AllReadyH.cons (o:={dst:=some 26,op:=Op.convert 220 9 (Operand.tmp 25),type:=9,pos:= "parts.go:83",after:= #[{on:=7,ground:=Ground.data}],guard:=none}) rfl (fun KH hKH=> ?_) AllReadyH.nil))
     ·go_simp
      ((go_at_call 147;refine(HX.out _).mono ?_;rintro e w1 ⟨rfl,b1⟩);try (have hk1:=cell_later b1 ((Bk.new (cs:= #[.int .u8 (48+(r:Int))]) (t:=5) rfl).get (j:=0) rfl)))
      try go_wp2_with fail
      refine hKH.out _ _ ?_ (fun hNew=> ?_)
      ·(first | exact(Below.refl _ _).drew | exact hHeld | exact hHeld.alloc hHeld.size _ | exact hHeld.trans (b1.mono hHeld.size))
      clear hKH KH hHeld
      have hHeld:=hNew
      clear hNew
      refine wpAnyH_ready (rs:= [8]) (by kernel_rfl) (by simp) ?_
      refine AllReadyH.cons (o:={dst:=some 26,op:=Op.convert 220 9 (Operand.tmp 25),type:=9,pos:= "parts.go:83",after:= #[{on:=7,ground:=Ground.data}],guard:=none}) rfl (fun KH hKH=> ?_) AllReadyH.nil
      go_simp
      refine hKH.out _ _ ?_ (fun hNew=> ?_)
      ·(first | exact(Below.refl _ _).drew | exact hHeld | exact hHeld.alloc hHeld.size _ | exact hHeld.trans (b1.mono hHeld.size))
      clear hKH KH hHeld
      have hHeld:=hNew
      clear hNew
      refine wpAnyH_take (i:=9) (oi:={dst:=some 27,op:=Op.binOp BinOp.add 9 (Operand.tmp 20) (Operand.tmp 26) 9,type:=9,pos:= "parts.go:83",after:= #[{on:=2,ground:=Ground.data},{on:=8,ground:=Ground.data}],guard:=none}) (v:=?_) rfl (by kernel_rfl) (by kernel_rfl) (by kernel_rfl) (fun _ _ _ h=> h) (Or.inl ⟨by rfl,?_⟩) (by assumption) ?_
      rotate_left
      ·(intro w hSw;(try dsimp only at hSw);go_simp;try with_reducible rfl)
      try simp only [Act.put,List.setIfInBounds_toArray,List.set_cons_zero,List.set_cons_succ]
      refine wpAnyH_take (i:=10) (oi:={dst:=some 2,op:=Op.assign (Operand.tmp 27),type:=9,pos:= "parts.go:83",after:= #[{on:=9,ground:=Ground.data},{on:=2,ground:=Ground.chain},{on:=0,ground:=Ground.phase},{on:=1,ground:=Ground.phase},{on:=2,ground:=Ground.phase},{on:=3,ground:=Ground.phase},{on:=4,ground:=Ground.phase},{on:=5,ground:=Ground.phase},{on:=6,ground:=Ground.phase},{on:=7,ground:=Ground.phase},{on:=8,ground:=Ground.phase},{on:=9,ground:=Ground.phase}],guard:=none}) (v:=?_) rfl (by kernel_rfl) (by kernel_rfl) (by kernel_rfl) (fun _ _ _ h=> h) (Or.inl ⟨by rfl,?_⟩) (by assumption) ?_
      rotate_left
      ·(intro w hSw;(try dsimp only at hSw);go_simp;try with_reducible rfl)
      try simp only [Act.put,List.setIfInBounds_toArray,List.set_cons_zero,List.set_cons_succ]
      refine wpAnyH_done (by kernel_rfl) ?_ _
      refine NoPanic.normal ?_
      go_wp2
      go_ret
      exact⟨congrArg (fun x=> Ending.returned (.string x)) HE.out,hHeld⟩
     ·go_simp
      refine hKH.out _ _ ?_ (fun hNew=> ?_)
      ·(first | exact(Below.refl _ _).drew | exact hHeld | exact hHeld.alloc hHeld.size _ | exact hHeld.trans (b1.mono hHeld.size))
      clear hKH KH hHeld
      have hHeld:=hNew
      clear hNew
      refine wpAnyH_ready (rs:= [2]) (by kernel_rfl) (by simp) ?_
      refine AllReadyH.cons (o:={dst:=some 20,op:=Op.call {callee:=Callee.value (Operand.func 147),args:= #[Operand.tmp 19],argTypes:= #[3]},type:=9,pos:= "parts.go:83",after:= #[{on:=1,ground:=Ground.data}],guard:=none}) rfl (fun KH hKH=> ?_) AllReadyH.nil
      go_simp
      ((go_at_call 147;refine(HX.out _).mono ?_;rintro e w1 ⟨rfl,b1⟩);try (have hk1:=cell_later b1 ((Bk.new (cs:= #[.int .u8 (48+(r:Int))]) (t:=5) rfl).get (j:=0) rfl)))
      try go_wp2_with fail
      refine hKH.out _ _ ?_ (fun hNew=> ?_)
      ·(first | exact(Below.refl _ _).drew | exact hHeld | exact hHeld.alloc hHeld.size _ | exact hHeld.trans (b1.mono hHeld.size))
      clear hKH KH hHeld
      have hHeld:=hNew
      clear hNew
      refine wpAnyH_take (i:=9) (oi:={dst:=some 27,op:=Op.binOp BinOp.add 9 (Operand.tmp 20) (Operand.tmp 26) 9,type:=9,pos:= "parts.go:83",after:= #[{on:=2,ground:=Ground.data},{on:=8,ground:=Ground.data}],guard:=none}) (v:=?_) rfl (by kernel_rfl) (by kernel_rfl) (by kernel_rfl) (fun _ _ _ h=> h) (Or.inl ⟨by rfl,?_⟩) (by assumption) ?_
      rotate_left
      ·(intro w hSw;(try dsimp only at hSw);go_simp;try with_reducible rfl)
      try simp only [Act.put,List.setIfInBounds_toArray,List.set_cons_zero,List.set_cons_succ]
      refine wpAnyH_take (i:=10) (oi:={dst:=some 2,op:=Op.assign (Operand.tmp 27),type:=9,pos:= "parts.go:83",after:= #[{on:=9,ground:=Ground.data},{on:=2,ground:=Ground.chain},{on:=0,ground:=Ground.phase},{on:=1,ground:=Ground.phase},{on:=2,ground:=Ground.phase},{on:=3,ground:=Ground.phase},{on:=4,ground:=Ground.phase},{on:=5,ground:=Ground.phase},{on:=6,ground:=Ground.phase},{on:=7,ground:=Ground.phase},{on:=8,ground:=Ground.phase},{on:=9,ground:=Ground.phase}],guard:=none}) (v:=?_) rfl (by kernel_rfl) (by kernel_rfl) (by kernel_rfl) (fun _ _ _ h=> h) (Or.inl ⟨by rfl,?_⟩) (by assumption) ?_
      rotate_left
      ·(intro w hSw;(try dsimp only at hSw);go_simp;try with_reducible rfl)
      try simp only [Act.put,List.setIfInBounds_toArray,List.set_cons_zero,List.set_cons_succ]
      refine wpAnyH_done (by kernel_rfl) ?_ _
      refine NoPanic.normal ?_
      go_wp2
      go_ret
      exact⟨congrArg (fun x=> Ending.returned (.string x)) HE.out,hHeld⟩
end Go.Proofs.YtbibeionenjmfaaGreatDoor
namespace Go.Proofs.YtbibeionenjmfaaGreatDoor
open Go.RowKit
theorem Rg (v:Int) (w:World) (h0: -9223372036854775808≤v) (h1:v≤9223372036854775807):
 Calls Tryz.prog 147 #[.int .i64 v] w fun e w'=> e= .returned (.string (tx (Lib.itoa v)))∧Below w.heap.size w w':=by
 by_cases hm:v= -9223372036854775808
 ·have HE:Hid (Lib.itoa v=Akw):=by show _=_;rw [hm,Akb]
  have e0:decide (v < 0)=true:=by rw [hm];decide
  have e1:(v == -9223372036854775808)=true:=by rw [hm];decide
  clear hm h0 h1
  go_enter Tryz.func147,Tryz.ntmps147
  go_wp2
  go_ret
  refine⟨?_,Below.refl _ _⟩
  rw [HE.out]
  rfl
 by_cases hv:v < 0
 ·obtain⟨u,hu⟩:∃ u:Nat, -v=(u:Int):=⟨v.natAbs,by omega⟩
  have HX:=Aa (Rh u u w (Nat.le_refl _) (by omega))
  have HE:Hid (Lib.itoa v=45::Lib.decDigits u):=by
   show _=_
   rw [show v= -(u:Int) by omega]
   exact Lib.itoa_neg u (by omega)
  have e0:decide (v < 0)=true:=by simp;omega
  have e1:(v == -9223372036854775808)=false:=by rw [beq_eq_false_iff_ne];omega
  have hz:¬ (9223372036854775807 < 1+(tx (Lib.decDigits u)).size):=by
   have:=Lk (u:=u) (by omega)
   rw [Am];omega
  have hw:wrap64 (u:Int)=(u:Int):=wrap64_in (by omega) (by omega)
  clear hm hv h0 h1
  go_enter Tryz.func147,Tryz.ntmps147
  go_wp2_with fail
  refine HX.out.mono ?_
  rintro e w1 ⟨rfl,b1⟩
  have HB:=Aa b1
  clear b1 HX
  go_wp2
  go_ret
  refine⟨?_,HB.out⟩
  rw [HE.out]
  show Ending.returned (.string (⟨#[45]⟩++tx (Lib.decDigits u)))=_
  congr 2
 ·obtain⟨u,rfl⟩:∃ u:Nat,v=(u:Int):=⟨v.toNat,by omega⟩
  rw [Lib.itoa_nonneg]
  exact Rh u u w (Nat.le_refl _) (by omega)
end Go.Proofs.YtbibeionenjmfaaGreatDoor
