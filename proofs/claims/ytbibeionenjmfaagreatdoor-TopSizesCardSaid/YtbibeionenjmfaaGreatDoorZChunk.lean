/- slices.Chunk over strings: its closure hands out the chunks, one behind the other. -/
import Derived.RangeFuncWrites
import Derived.RangeFuncLeaves
import Derived.RangeFuncBound
import Derived.RangeFuncCalls
import Derived.OwnWalkIn
import Derived.TacticsInMore
import Derived.LoopNIn
import Derived.LoopIn
import Derived.Deep.CutBlock
import Derived.Test.YtbibeionenjmfaaGreatDoorZBench3
import Derived.Test.YtbibeionenjmfaaGreatDoorZHeldC
set_option linter.unusedSimpArgs false
set_option linter.unusedVariables false
namespace Go.Proofs.YtbibeionenjmfaaGreatDoor
open Go.RowKit
attribute [local go_sem] Oper.semAt_some
abbrev ChV:=Option Addr×Nat×Nat
def chV (c:ChV):Value:= .slice c.1 c.2.1 c.2.2
def Qi (ao:Option Addr) (n size k:Nat):ChV:=(ao.map fun a=> ⟨a.block,a.off+k * size,none⟩,min size (n - k * size),min size (n - k * size))
def Bs (n size:Nat):Nat:=(n+size - 1) / size
def E0 (ao:Option Addr) (n size k:Nat):List ChV:=(List.range k).map (Qi ao n size)
theorem Vs (ao:Option Addr) (n size k:Nat):E0 ao n size (k+1)=E0 ao n size k++ [Qi ao n size k]:=by unfold E0;rw [List.range_succ,List.map_append];rfl
theorem Lj (ao:Option Addr) (n size k:Nat):(E0 ao n size k).length=k:=by unfold E0;simp
theorem Lr {n size k:Nat} (hs:1≤size):k * size < n↔k < Bs n size:=by
 unfold Bs
 rw [Nat.lt_div_iff_mul_lt (by omega)]
 rw [Nat.mul_comm]
 omega
theorem Aga (ao:Option Addr) (n cap size:Nat) (w:World) (hs:1≤size):
 Calls Tryz.prog 86 #[.slice ao n cap, .int .i64 size] w fun e w'=> e= .returned (.func (.func 123) #[] #[.pointer (some ⟨w.heap.size,0,none⟩), .pointer (some ⟨w.heap.size+1,0,none⟩)])∧
  w'=(w.alloc (.cells #[.slice ao n cap] 39)).alloc (.cells #[.int .i64 size] 3):=by
 have e1:decide ((size:Int) < 1)=false:=by simp;omega
 go_enter Tryz.func86,Tryz.ntmps86
 go_wp2
 go_ret
 exact⟨rfl,rfl⟩
set_option maxRecDepth 100000 in
set_option maxHeartbeats 2000000 in
theorem Ag5 (m:Nat) (l B1 B2:Nat) (ao:Option Addr) (n cap size:Nat) (hs:1≤size) (hs2:size≤1000) (hn:n≤1000) (hcap:n≤cap) (hao:0 < n→∃ b off,ao=some ⟨b,off,none⟩) (J Jx:List ChV→World→Prop)
 (hY:∀ pre x W,J pre W→pre.length < Bs n size→YieldAt Fence.wide (m - 1) Tryz.prog l #[chV x] W fun e W'=>
  (e= .returned (.bool true)∧J (pre++ [x]) W'∧(W'.cell? ⟨B1,0,none⟩=W.cell? ⟨B1,0,none⟩∧W'.cell? ⟨B2,0,none⟩=W.cell? ⟨B2,0,none⟩))∨(e= .returned (.bool false)∧Jx (pre++ [x]) W'))
 (W:World) (c1:W.cell? ⟨B1,0,none⟩=some (.slice ao n cap)) (c2:W.cell? ⟨B2,0,none⟩=some (.int .i64 size)) (h0:J [] W) (hJd:∀ pre W n,J pre W→J pre (W.drewN n)):
 CallsIn Fence.wide m Tryz.prog 123 #[.func (.yield l) #[] #[], .pointer (some ⟨B1,0,none⟩), .pointer (some ⟨B2,0,none⟩)] W fun e W'=> (∃ v,e= .returned v)∧
  ((∃ ys,ys=E0 ao n size (Bs n size)∧J ys W')∨(∃ pre,Jx pre W')):=by
 refine callsIn_of_wp Tryz.func123 rfl trivial ?_ rfl
 simp only [Tryz.ntmps123,List.size_toArray,List.length_cons,List.length_nil,Nat.reduceAdd,Nat.reduceSub,Array.replicate_succ,Array.replicate_zero,List.push_toArray,List.append_toArray,List.nil_append,List.cons_append]
 gi_wp2
 gi_loopw [4] (fun i wr=> ∃ k:Nat,k≤Bs n size∧i= .int .i64 ((k * size:Nat):Int)∧J (E0 ao n size k) wr∧wr.cell? ⟨B1,0,none⟩=some (.slice ao n cap)∧wr.cell? ⟨B2,0,none⟩=some (.int .i64 size))
  (fun i _=> Bs n size * size - (intOf i).toNat)
 case atStart=> exact⟨0,Nat.zero_le _,by simp,h0,c1,c2⟩
 case round=>
  clear c1 c2
  obtain⟨k,hk,rfl,hJs,c1,c2⟩:=hrel
  by_cases hlt:k < Bs n size
  ·have hkn:=(Lr (n:=n) (k:=k) hs).2 hlt
   obtain⟨b,off,rfl⟩:=hao (by omega)
   generalize hp:k * size=p at *
   have e1:decide (p < n)=true:=by simpa using hkn
   have f1:(p:Int)≤(n:Int):=by omega
   have f2:(p:Int)≤(cap:Int):=by omega
   have f3:(n:Int)≤(cap:Int):=by omega
   refine wpIn_wide.2 ?_
   go_upto_region 3 with (fail)
   go_quiet (fail)
   go_upto_region 4 with (fail)
   have hm9:(if n - p < size then((n - p:Nat):Int) else(size:Int))=((min size (n - p):Nat):Int):=by split <;> omega
   rw [hm9]
   have hch:Qi (some ⟨b,off,none⟩) n size k=(some ⟨b,off+p,none⟩,min size (n - p),min size (n - p)):=by
    unfold Qi;rw [hp];rfl
   have hq1:1≤min size (n - p):=by omega
   have hq2:p+min size (n - p)≤n:=by omega
   have hnext:min size (n - p)≤size:=Nat.min_le_left _ _
   generalize min size (n - p)=q at *
   have HJ:=hJd _ _ nq hJs
   have d1:(wr.drewN nq).cell? ⟨B1,0,none⟩=some (.slice (some ⟨b,off,none⟩) n cap):=c1
   have d2:(wr.drewN nq).cell? ⟨B2,0,none⟩=some (.int .i64 size):=c2
   obtain⟨fn,tmps,assign,body,hy,hR⟩:=hY _ (Qi (some ⟨b,off,none⟩) n size k) (wr.drewN nq) HJ (by rw [Lj];exact hlt)
   unfold chV at hy
   rw [hch] at hy
   dsimp only at hy
   have g1:(p:Int)≤(p:Int)+(q:Int):=by omega
   have g2:(p:Int)+(q:Int)≤(cap:Int):=by omega
   clear hm9 c1 c2 e1
   generalize wr.drewN nq=W3 at *
   refine(wpIn_wide (n:=m)).1 ?_
   gi_wp2
   refine⟨fun e=> (by cases e),hR.mono ?_⟩
   rintro e W4 (⟨rfl,hJ4,k1,k2⟩ | ⟨rfl,hJx⟩)
   ·have e1':=k1.trans d1
    have e2':=k2.trans d2
    have hks:k * size+size=(k+1) * size:=by rw [Nat.succ_mul]
    rw [hp] at hks
    have hmx:(k+1) * size≤Bs n size * size:=Nat.mul_le_mul_right _ hlt
    clear d1 d2 k1 k2 hR hy HJ hJs hao
    gi_wp2
    go_wp2
    go_roundw
    case rel=> exact⟨k+1,by omega,by rw [←hks];go_num,by rw [Vs];exact hJ4,e1',e2'⟩
    case measure=> (simp [intOf];try omega)
   ·gi_wp2
    go_wp2
    refine bodyPost_ret (results_none rfl _ _ _) rfl ?_
    exact⟨⟨_,rfl⟩, .inr ⟨_,hJx⟩⟩
  ·obtain rfl:k=Bs n size:=by omega
   have hkn:¬ Bs n size * size < n:=fun e=> by have:=(Lr (n:=n) (k:=Bs n size) hs).1 e;omega
   generalize hp:Bs n size * size=p at *
   have e1:decide (p < n)=false:=by simpa using hkn
   gi_wp2
   go_end0
   exact⟨⟨_,rfl⟩, .inl ⟨_,rfl,hJs⟩⟩
theorem Aat (W:World) (n:Nat):W.grownBy (W.drewN n) none:=⟨rfl,rfl,rfl,Nat.le_refl _,fun _ _ _=> rfl⟩
def P9 (B1 B2:Nat) (W W':World):Prop:=W'.cell? ⟨B1,0,none⟩=W.cell? ⟨B1,0,none⟩∧W'.cell? ⟨B2,0,none⟩=W.cell? ⟨B2,0,none⟩
theorem Z8 (m B1 B2:Nat) (ao:Option Addr) (n cap size:Nat) (hs:1≤size) (hs2:size≤1000) (hn:n≤1000) (hcap:n≤cap) (hao:0 < n→∃ b off,ao=some ⟨b,off,none⟩) (w:World)
 (h1:B1 < w.heap.size) (h2:B2 < w.heap.size) (c1:w.cell? ⟨B1,0,none⟩=some (.slice ao n cap)) (c2:w.cell? ⟨B2,0,none⟩=some (.int .i64 size)):
 SeqStopsK Fence.wide m Tryz.prog 123 #[.pointer (some ⟨B1,0,none⟩), .pointer (some ⟨B2,0,none⟩)] (fun x:ChV=> #[chV x]) (P9 B1 B2) (fun ys=> ys=E0 ao n size (Bs n size)) (fun _=> True) (Bs n size) w:=fun l J Jx W hW hJ _ hY h0=> by
 refine(Ag5 m l B1 B2 ao n cap size hs hs2 hn hcap hao J Jx hY W ((hW.cell (p:=⟨B1,0,none⟩) h1).trans c1) ((hW.cell (p:=⟨B2,0,none⟩) h2).trans c2) h0 fun pre W1 k hj=> hJ _ _ _ none hj (Aat W1 k) (fun r e=> by cases e)).mono ?_
 rintro e W' ⟨he,⟨ys,rfl,hj⟩ | ⟨pre,hj⟩⟩
 ·exact⟨he, .inl ⟨_,rfl,hj⟩⟩
 ·exact⟨he, .inr ⟨_,trivial,hj⟩⟩
end Go.Proofs.YtbibeionenjmfaaGreatDoor
