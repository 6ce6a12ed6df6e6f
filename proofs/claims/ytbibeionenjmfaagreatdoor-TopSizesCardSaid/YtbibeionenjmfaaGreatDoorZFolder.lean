/- folder: a run over pairs: its state; Out, Save. -/
import Derived.Lib.QuietBelow
import Derived.Test.YtbibeionenjmfaaGreatDoorZDecI
set_option linter.unusedSimpArgs false
set_option linter.unusedVariables false
namespace Go.Proofs.YtbibeionenjmfaaGreatDoor
open Go.RowKit
theorem Ahy (p:Pr) (h: -9223372036854775808≤p.2∧p.2≤9223372036854775807) (hk:p.1.size≤100000):(Im p).length≤100043:=by
 have h1:(Lib.itoa (p.1.size:Int)).length≤20:=C4 (by omega) (by omega)
 have h2:(Lib.itoa p.2).length≤20:=C4 h.1 h.2
 unfold Im
 simp only [List.length_append,List.length_cons,List.length_nil,Fw]
 omega
theorem X6:∀ (l:List Pr),(∀ p∈l,p.1.size≤100000∧ -9223372036854775808≤p.2∧p.2≤9223372036854775807)→(Ct l).length≤100043 * l.length
 | [],_=> Nat.le_refl _
 | p::l,h=> by
   have h1:=h p List.mem_cons_self
   have h2:=Ahy p h1.2 h1.1
   have h3:=X6 l fun x hx=> h x (List.mem_cons_of_mem _ hx)
   rw [show Ct (p::l)=Im p++Ct l from rfl,List.length_append,List.length_cons]
   omega
theorem Vd {l:List Pr} {k:Nat} {p:Pr} (h:l[k]?=some p):Ct (l.take (k+1))=Ct (l.take k)++Im p:=by
 obtain⟨h1,h2⟩:=List.getElem?_eq_some_iff.1 h
 rw [List.take_succ_eq_append_getElem h1,h2]
 unfold Ct
 rw [List.flatMap_append]
 simp
def Nv (l:List Pr):Prop:=l.length≤100000∧∀ p∈l,p.1.size≤100000∧ -9223372036854775808≤p.2∧p.2≤9223372036854775807
theorem Nv.take {l:List Pr} (h:Nv l) (k:Nat):(Ct (l.take k)).length≤10004300000:=by
 have h1:=X6 (l.take k) fun p hp=> h.2 p (List.mem_of_mem_take hp)
 have h2:(l.take k).length≤100000:=by rw [List.length_take];have:=h.1;omega
 omega
theorem Am2 (A:List UInt8) (x:ByteArray) (y:Int):((((((tx A++tx (Lib.itoa (x.size:Int)))++⟨#[58]⟩)++x)++⟨#[32]⟩)++tx (Lib.itoa y))++⟨#[10]⟩:ByteArray)=tx (A++Im (x,y)):=by
 apply Dc
 rw [tl,tl,Ap]
 simp [tx,ByteArray.data_append,Im]
set_option maxRecDepth 100000 in
set_option maxHeartbeats 1000000 in
theorem Alv (ao:Option Addr) (cap:Nat) (l:List Pr) (w:World) (hok:Nv l) (hs:Sl 2 Bt w ao l):
 Calls Tryz.prog 109 #[.slice ao l.length cap] w fun e w'=> e= .returned (.string (tx (Ct l)))∧Below w.heap.size w w':=by
 have HOK:=Aa hok
 have hl:=hok.1
 clear hok
 go_enter Tryz.func109,Tryz.ntmps109
 go_wp2
 go_loopw [3,4] (fun sv i wr=> ∃ k:Nat,k≤l.length∧i= .int .i64 k∧sv= .string (tx (Ct (l.take k)))∧Below w.heap.size w wr) (fun _ i _=> l.length - (intOf i).toNat)
 case atStart=> exact⟨0,by omega,rfl,rfl,Below.refl _ _⟩
 case round=>
  obtain⟨k,hk,rfl,rfl,hnx⟩:=hrel
  by_cases hlt:k < l.length
  ·obtain⟨b,off,x,y,rfl,hbw,hlk,c0,c1⟩:=(hs.later hnx (Nat.le_refl _)).pair hlt
   have hxy:=HOK.out.2 (x,y) (List.mem_of_getElem? hlk)
   dsimp only at hxy
   obtain⟨hx,hy0,hy1⟩:=hxy
   have hA:=HOK.out.take k
   have HT:=Aa ((Vd hlk).trans rfl)
   have HE:=Aa (Am2 (Ct (l.take k)) x y)
   generalize Ct (l.take k)=A at *
   have k0:=cell_regrown c0
   have k1:=cell_regrown c1
   have hD1:Hid (∀ w':World,Calls Tryz.prog 147 #[.int .i64 (x.size:Int)] w' fun e w''=> e= .returned (.string (tx (Lib.itoa (x.size:Int))))∧Below w'.heap.size w' w''):=fun w'=> Rg _ w' (by omega) (by omega)
   have hD2:Hid (∀ w':World,Calls Tryz.prog 147 #[.int .i64 y] w' fun e w''=> e= .returned (.string (tx (Lib.itoa y)))∧Below w'.heap.size w' w''):=fun w'=> Rg _ w' hy0 hy1
   have z0:(tx A).size≤10004300000:=by rw [Am];exact hA
   have z1:(tx (Lib.itoa (x.size:Int))).size≤20:=by rw [Am];exact C4 (by omega) (by omega)
   have z2:(tx (Lib.itoa y)).size≤20:=by rw [Am];exact C4 hy0 hy1
   generalize tx (Lib.itoa (x.size:Int))=D1 at *
   generalize tx (Lib.itoa y)=D2 at *
   generalize tx A=SA at *
   have n1:¬ 9223372036854775807 < SA.size+D1.size:=by omega
   have n2:¬ 9223372036854775807 < SA.size+D1.size+1:=by omega
   have n3:¬ 9223372036854775807 < SA.size+D1.size+1+x.size:=by omega
   have n4:¬ 9223372036854775807 < SA.size+D1.size+1+x.size+1:=by omega
   have n5:¬ 9223372036854775807 < SA.size+D1.size+1+x.size+1+D2.size:=by omega
   have n6:¬ 9223372036854775807 < SA.size+D1.size+1+x.size+1+D2.size+1:=by omega
   have f1:(0:Int)≤(k:Int)∧(k:Int) < (l.length:Int)∧(0:Int)≤(x.size:Int)∧(x.size:Int)≤100000:=by omega
   obtain⟨f1,f2,f3,f4⟩:=f1
   clear hlk z0 z1 z2 hA
   go_wp2_with fail
   go_upto_region 5 with (fail)
   refine wp_region_quiet_below (by kernel_rfl) (by kernel_rfl) ?_
   repeat (quiet_step (first | (go_at_call_of 147 (Value.int IntKind.i64 (x.size:Int));exact Calls.regrown_of (hD1.out _)) | exact Calls.regrown_of (hD2.out _)))
   refine wpQuiet_nil ?_
   intro _ hw'
   obtain⟨⟨dq,osq⟩,hw''⟩:=hw'
   subst hw''
   have HB:=Aa (hnx.trans ((below_regrown wr dq osq).mono hnx.size))
   clear n1 n2 n3 n4 n5 n6 k0 k1
   go_wp2
   go_roundw
   case rel=> exact⟨k+1,by omega,by go_num,by rw [HT.out,←HE.out],HB.out⟩
   case measure=> (simp [intOf];try omega)
  ·have HT:Hid (l.take k=l):=List.take_of_length_le (by omega)
   go_wp2
   go_ret
   exact⟨by rw [HT.out];rfl,hnx⟩
theorem Bd.later {w w':World} {B b:Nat} {l:List UInt8} (h:Bd w B b l) (k:Below w.heap.size w w'):Bd w' B b l:=by
 have key:∀ {p:Value} {bs:List Value},Lib.BuilderAt 222 5 B b p bs w→Lib.BuilderAt 222 5 B b p bs w':=by
  intro p bs hp
  have hlt:=hp.lt
  obtain⟨hB,v,hb,hown,hne⟩:=hp
  refine⟨hB,v,by rw [k.block b hlt];exact hb,?_,hne⟩
  obtain⟨hl,hh⟩:=hown
  refine⟨hl,?_⟩
  rcases hh with h | ⟨g,cap,cur,rfl,hbg,hg,r⟩
  ·exact .inl h
  ·exact .inr ⟨g,cap,cur,rfl,hbg,by rw [k.block g (Array.getElem?_eq_some_iff.1 hg).1];exact hg,r⟩
 rcases h with h | h
 ·exact .inl (key h)
 ·exact .inr (key h)
theorem Aks (x:ByteArray) (y:Int):(((((tx (Lib.itoa (x.size:Int))++⟨#[58]⟩)++x)++⟨#[32]⟩)++tx (Lib.itoa y))++⟨#[10]⟩:ByteArray).data.toList=Im (x,y):=by
 simp [tx,ByteArray.data_append,Im]
set_option maxRecDepth 100000 in
set_option maxHeartbeats 1000000 in
theorem Ajg (ao:Option Addr) (cap:Nat) (l:List Pr) (w:World) (hg:GT w) (hok:Nv l) (hs:Sl 2 Bt w ao l):
 Calls Tryz.prog 119 #[.slice ao l.length cap] w fun e w'=> e= .returned (.string (tx (Ct l)))∧Below w.heap.size w w':=by
 have HOK:=Aa hok
 have HG:=Aa hg
 have hl:=hok.1
 have HBD0:=Aa (Aon w)
 have hb0:Below w.heap.size w (w.alloc (.cells #[.pointer none, .slice none 0 0] 222)):=(Below.refl _ _).alloc (Nat.le_refl _) _
 clear hok hg
 go_enter Tryz.func119,Tryz.ntmps119
 go_wp2
 go_loopw [8] (fun i wr=> ∃ k:Nat,k≤l.length∧i= .int .i64 k∧Hid (Bd wr w.heap.size w.heap.size (Ct (l.take k)))∧Below w.heap.size w wr) (fun i _=> l.length - (intOf i).toNat)
 case atStart=> exact⟨0,by omega,rfl,HBD0,hb0⟩
 case round=>
  obtain⟨k,hk,rfl,HBD,hnx⟩:=hrel
  by_cases hlt:k < l.length
  ·obtain⟨b,off,x,y,rfl,hbw,hlk,c0,c1⟩:=(hs.later hnx (Nat.le_refl _)).pair hlt
   have hxy:=HOK.out.2 (x,y) (List.mem_of_getElem? hlk)
   dsimp only at hxy
   obtain⟨hx,hy0,hy1⟩:=hxy
   have hA:=HOK.out.take k
   have HT:=Aa ((Vd hlk).trans rfl)
   have HE:=Aa (Aks x y)
   have HG2:=Aa (HG.out.later hnx (Nat.le_refl _))
   generalize Ct (l.take k)=A at *
   have hD1:Hid (∀ w':World,GT w'→Calls Tryz.prog 88 #[.int .i64 (x.size:Int)] w' fun e w''=> e= .returned (.string (tx (Lib.itoa (x.size:Int))))∧Below w'.heap.size w' w''):=fun w' hg=> Gc _ w' hg (by omega) (by omega)
   have hD2:Hid (∀ w':World,GT w'→Calls Tryz.prog 88 #[.int .i64 y] w' fun e w''=> e= .returned (.string (tx (Lib.itoa y)))∧Below w'.heap.size w' w''):=fun w' hg=> Gc _ w' hg hy0 hy1
   have z1:(tx (Lib.itoa (x.size:Int))).size≤20:=by rw [Am];exact C4 (by omega) (by omega)
   have z2:(tx (Lib.itoa y)).size≤20:=by rw [Am];exact C4 hy0 hy1
   generalize tx (Lib.itoa (x.size:Int))=D1 at *
   generalize tx (Lib.itoa y)=D2 at *
   have hls:A.length+(((((D1++⟨#[58]⟩)++x)++⟨#[32]⟩)++D2)++⟨#[10]⟩:ByteArray).size≤140737488355328:=by
    have s1:(⟨#[58]⟩:ByteArray).size=1:=rfl
    have s2:(⟨#[32]⟩:ByteArray).size=1:=rfl
    have s3:(⟨#[10]⟩:ByteArray).size=1:=rfl
    simp only [ByteArray.size_append]
    omega
   have HLS:=Aa hls
   have n1:¬ 9223372036854775807 < D1.size+1:=by omega
   have n3:¬ 9223372036854775807 < D1.size+1+x.size:=by omega
   have n4:¬ 9223372036854775807 < D1.size+1+x.size+1:=by omega
   have n5:¬ 9223372036854775807 < D1.size+1+x.size+1+D2.size:=by omega
   have n6:¬ 9223372036854775807 < D1.size+1+x.size+1+D2.size+1:=by omega
   have f1:(0:Int)≤(k:Int)∧(k:Int) < (l.length:Int)∧(0:Int)≤(x.size:Int)∧(x.size:Int)≤100000:=by omega
   obtain⟨f1,f2,f3,f4⟩:=f1
   clear hlk z1 z2 hA hls
   go_upto_region 5 with (fail)
   have hq0:(wr.alloc (.cells #[.string x, .int .i64 y] 202)).heap[wr.heap.size]?=some (.cells #[.string x, .int .i64 y] 202 (0,0)):=B3 _ _
   have d0:(wr.alloc (.cells #[.string x, .int .i64 y] 202)).cell? ⟨wr.heap.size,0,none⟩=some (.string x):=(Bk.new rfl).get (j:=0) rfl
   have d1:(wr.alloc (.cells #[.string x, .int .i64 y] 202)).cell? ⟨wr.heap.size,1,none⟩=some (.int .i64 y):=(Bk.new rfl).get (j:=1) rfl
   have hbw2:Below wr.heap.size wr (wr.alloc (.cells #[.string x, .int .i64 y] 202)):=(Below.refl _ _).alloc (Nat.le_refl _) _
   have HBD2:=Aa (HBD.out.later hbw2)
   have HG3:=Aa (HG2.out.later hbw2 (Nat.le_refl _))
   have hnx2:Below w.heap.size w (wr.alloc (.cells #[.string x, .int .i64 y] 202)):=hnx.trans (hbw2.mono hnx.size)
   have hne:w.heap.size < wr.heap.size:=by rcases HBD.out with h | h <;> exact h.lt
   clear hbw2 HBD HG2 HG
   generalize wr.alloc (.cells #[.string x, .int .i64 y] 202)=W at *
   have hws:=hnx2.size
   go_region_held3 (fun w'=> Below w.heap.size W w'∧w'.heap[wr.heap.size]?=some (.cells #[.string x, .int .i64 y] 202 (0,0))∧w'.cell? ⟨wr.heap.size,0,none⟩=some (.string x)∧w'.cell? ⟨wr.heap.size,1,none⟩=some (.int .i64 y))
    (first
     | exact⟨(Below.refl _ _).drew,hq0,d0,d1⟩
     | (have h:=(by assumption:Below w.heap.size W _∧_∧_∧_);exact⟨h.1.trans b3,hkp3 _ _ h.2.1 (by omega) (fun c fr e=> by injection e with _ e2;revert e2;decide),by rw [Lib.cell_of_heap (hkp3 _ _ h.2.1 (by omega) (fun c fr e=> by injection e with _ e2;revert e2;decide))];rfl,by rw [Lib.cell_of_heap (hkp3 _ _ h.2.1 (by omega) (fun c fr e=> by injection e with _ e2;revert e2;decide))];rfl⟩)
     | (have h:=(by assumption:Below w.heap.size W _∧_∧_∧_);exact⟨h.1.trans (b2.mono (Nat.le_trans hws h.1.size)),by rw [b2.block _ (Array.getElem?_eq_some_iff.1 h.2.1).1];exact h.2.1,cell_later b2 h.2.2.1,cell_later b2 h.2.2.2⟩)
     | (have h:=(by assumption:Below w.heap.size W _∧_∧_∧_);exact⟨h.1.trans (b1.mono (Nat.le_trans hws h.1.size)),by rw [b1.block _ (Array.getElem?_eq_some_iff.1 h.2.1).1];exact h.2.1,cell_later b1 h.2.2.1,cell_later b1 h.2.2.2⟩)
     | go_keep)
    (first
     | (go_at_call_of 88 (Value.int IntKind.i64 (x.size:Int));refine(hD1.out _ (HG3.out.later ((Below.refl _ _).drew) (Nat.le_refl _))).mono ?_;rintro e w1 ⟨rfl,b1⟩)
     | (go_at_call_of 88 (Value.int IntKind.i64 y);refine(hD2.out _ ((HG3.out.later ((Below.refl _ _).drew) (Nat.le_refl _)).later b1 (Nat.le_refl _))).mono ?_;rintro e w2 ⟨rfl,b2⟩)
     | (go_at_call 126;have h:=(by assumption:Below w.heap.size W _∧_∧_∧_);refine(Vr _ _ _ _ _ (((HBD2.out.later ((Below.refl _ _).drew)).later b1).later b2) HLS.out (Nat.le_trans hws h.1.size)).mono ?_;clear h;rintro e w3 ⟨rfl,hbd3,b3,hkp3⟩))
   all_goals
    have h:=(by assumption:Below w.heap.size W _∧_∧_∧_)
    have HB:=Aa (hnx2.trans h.1)
    have HBD3:=Aa hbd3
    clear h hbd3 hkp3 hq0 d0 d1 b1 b2 b3
    go_wp2
    go_roundw
    case rel=> exact⟨k+1,by omega,by go_num,by rw [HT.out,←HE.out];exact HBD3,HB.out⟩
    case measure=> (simp [intOf];try omega)
  ·have HT:Hid (l.take k=l):=List.take_of_length_le (by omega)
   rw [HT.out] at HBD
   have HS:=Aa (Ag0 _ _ _ wr HBD.out hnx.size)
   clear HBD
   go_wp2_with fail
   refine HS.out.mono ?_
   rintro e w1 ⟨rfl,b1⟩
   have HB:=Aa (hnx.trans (b1.mono (by omega)))
   clear b1 HS
   go_wp2
   go_ret
   exact⟨rfl,HB.out⟩
end Go.Proofs.YtbibeionenjmfaaGreatDoor
namespace Go.Proofs.YtbibeionenjmfaaGreatDoor
open Go.RowKit
abbrev En:=ByteArray×List Int×List ByteArray
def Dx (N:List Int):List UInt8:=N.flatMap fun n=> 32::Lib.itoa n
def C8 (T:List ByteArray):List Int:=T.map fun t=> (t.size:Int)
def L7 (T:List ByteArray):List UInt8:=T.flatMap fun t=> t.data.toList
def Kc (e:En):List UInt8:=(e.1.data.toList++Dx e.2.1++59::Dx (C8 e.2.2))++10::(L7 e.2.2++ [46])
theorem Ad7 (n:Int) (N:List Int):Dx (n::N)=32::(Lib.itoa n++Dx N):=by simp [Dx]
def Ahi (N:List Int):Prop:=∀ n∈N, -9223372036854775808≤n∧n≤9223372036854775807
theorem Adq (t:ByteArray) (T:List ByteArray):L7 (t::T)=t.data.toList++L7 T:=by simp [L7]
end Go.Proofs.YtbibeionenjmfaaGreatDoor
namespace Go.Proofs.YtbibeionenjmfaaGreatDoor
open Go.RowKit
def Gg (n:Nat) (out:List Pr):List UInt8:=Lib.itoa (n:Int)++10::Ct out
theorem Aby (n:Nat) (out:List Pr):cutAt 10 (Gg n out)=(Lib.itoa (n:Int),Ct out,true):=by
 unfold Gg
 exact Fz (Mn (by decide) (by decide))
theorem Pu (n:Nat) (out:List Pr):(Gg n out).length=(Lib.itoa (n:Int)).length+1+(Ct out).length:=by
 unfold Gg;rw [List.length_append,List.length_cons];omega
end Go.Proofs.YtbibeionenjmfaaGreatDoor
namespace Go.Proofs.YtbibeionenjmfaaGreatDoor
open Go.RowKit
inductive Aph (r:List UInt8):Prop where
 | head (h:((cutAt 58 r).2.2 && Dg (cutAt 58 r).1)=false) (e:Jn r=none)
 | neg (h:((cutAt 58 r).2.2 && Dg (cutAt 58 r).1)=true) (hn:Ci (cutAt 58 r).1 < 0) (e:Jn r=none)
 | long (h:((cutAt 58 r).2.2 && Dg (cutAt 58 r).1)=true) (n:Nat) (hn:Ci (cutAt 58 r).1=n) (hl:(cutAt 58 r).2.1.length≤n) (e:Jn r=none)
 | blank (h:((cutAt 58 r).2.2 && Dg (cutAt 58 r).1)=true) (n:Nat) (hn:Ci (cutAt 58 r).1=n) (hl:n < (cutAt 58 r).2.1.length) (c:UInt8) (hc:(cutAt 58 r).2.1[n]?=some c) (h32:c≠32) (e:Jn r=none)
 | val (h:((cutAt 58 r).2.2 && Dg (cutAt 58 r).1)=true) (n:Nat) (hn:Ci (cutAt 58 r).1=n) (hl:n < (cutAt 58 r).2.1.length) (hc:(cutAt 58 r).2.1[n]?=some 32)
  (h2:((cutAt 10 ((cutAt 58 r).2.1.drop (n+1))).2.2 && Dg (cutAt 10 ((cutAt 58 r).2.1.drop (n+1))).1)=false) (e:Jn r=none)
 | ok (h:((cutAt 58 r).2.2 && Dg (cutAt 58 r).1)=true) (n:Nat) (hn:Ci (cutAt 58 r).1=n) (hl:n < (cutAt 58 r).2.1.length) (hc:(cutAt 58 r).2.1[n]?=some 32)
  (h2:((cutAt 10 ((cutAt 58 r).2.1.drop (n+1))).2.2 && Dg (cutAt 10 ((cutAt 58 r).2.1.drop (n+1))).1)=true)
  (e:Jn r=some ((tx ((cutAt 58 r).2.1.take n),Ci (cutAt 10 ((cutAt 58 r).2.1.drop (n+1))).1),(cutAt 10 ((cutAt 58 r).2.1.drop (n+1))).2.1))
theorem Ut {l:List UInt8} (h:Dg l=false):Sv l=none:=by
 unfold Dg at h
 cases hn:Sv l with
 | none=> rfl
 | some v=> rw [hn] at h;cases h
theorem Apw (r:List UInt8):Aph r:=by
 cases h:((cutAt 58 r).2.2 && Dg (cutAt 58 r).1) with
 | false=>
   refine .head h ?_
   have:Ja r=none:=by
    unfold Ja
    cases hk:Dg (cutAt 58 r).1 with
    | false=> rw [Ut hk]
    | true=>
      rw [Kv hk]
      rw [hk,Bool.and_true] at h
      simp only
      rw [if_neg]
      rintro⟨h1,_⟩
      rw [h] at h1;cases h1
   unfold Jn;rw [this]
 | true=>
   have h':=h
   simp only [Bool.and_eq_true] at h'
   obtain⟨h1,h2⟩:=h'
   have hv:=Kv h2
   by_cases hn:Ci (cutAt 58 r).1 < 0
   ·refine .neg h hn ?_
    have:Ja r=none:=by
     unfold Ja
     rw [hv]
     simp only
     rw [if_neg]
     rintro⟨_,h3,_⟩;omega
    unfold Jn;rw [this]
   ·obtain⟨n,hn'⟩:∃ n:Nat,Ci (cutAt 58 r).1=n:=⟨(Ci (cutAt 58 r).1).toNat,by omega⟩
    by_cases hl:n < (cutAt 58 r).2.1.length
    ·obtain⟨c,hc⟩:∃ c,(cutAt 58 r).2.1[n]?=some c:=⟨_,List.getElem?_eq_getElem hl⟩
     by_cases h32:c=32
     ·subst h32
      have hh:Ja r=some ((cutAt 58 r).2.1.take n,(cutAt 58 r).2.1.drop (n+1)):=by
       unfold Ja
       rw [hv,hn']
       simp only
       rw [if_pos ⟨h1,by omega,by omega,by rw [Int.toNat_natCast];exact hc⟩,Int.toNat_natCast]
      cases h3:((cutAt 10 ((cutAt 58 r).2.1.drop (n+1))).2.2 && Dg (cutAt 10 ((cutAt 58 r).2.1.drop (n+1))).1) with
      | false=>
        refine .val h n hn' hl hc h3 ?_
        have:Ab9 ((cutAt 58 r).2.1.drop (n+1))=none:=by
         unfold Ab9
         cases hk:Dg (cutAt 10 ((cutAt 58 r).2.1.drop (n+1))).1 with
         | false=> rw [Ut hk]
         | true=>
           rw [Kv hk]
           rw [hk,Bool.and_true] at h3
           simp only
           rw [if_neg]
           intro h4;rw [h3] at h4;cases h4
        unfold Jn;rw [hh];simp only;rw [this]
      | true=>
        refine .ok h n hn' hl hc h3 ?_
        have h3':=h3
        simp only [Bool.and_eq_true] at h3'
        unfold Jn
        rw [hh]
        simp only
        unfold Ab9
        rw [Kv h3'.2]
        simp only
        rw [if_pos h3'.1]
     ·refine .blank h n hn' hl c hc h32 ?_
      have:Ja r=none:=by
       unfold Ja
       rw [hv,hn']
       simp only
       rw [if_neg]
       rintro⟨_,_,_,h4⟩
       rw [Int.toNat_natCast,hc] at h4
       exact h32 (by simpa using h4)
      unfold Jn;rw [this]
    ·refine .long h n hn' (by omega) ?_
     have:Ja r=none:=by
      unfold Ja
      rw [hv,hn']
      simp only
      rw [if_neg]
      rintro⟨_,_,h3,_⟩;omega
     unfold Jn;rw [this]
theorem Ky {S r:List UInt8} {acc:List Pr} (h:Co S=(Co r).map (acc++·)) (ho:Jn r=none) (hr:r≠ []):Co S=none:=by rw [h,Abq hr ho];rfl
theorem Aec {S r m:List UInt8} {acc:List Pr} {p:Pr} (h:Co S=(Co r).map (acc++·)) (ho:Jn r=some (p,m)):Co S=(Co m).map ((acc++ [p])++·):=by
 rw [h,R5 ho]
 cases Co m <;> simp
theorem Aia {S:List UInt8} {acc:List Pr} (h:Co S=(Co []).map (acc++·)):Co S=some acc:=by rw [h,Aeb];simp
def Ale:Value→Nat
 | .string s=> s.size
 | _=> 0
theorem Aln {l:List UInt8} {n:Nat} {c:UInt8} (h:l[n]?=some c) (hn:n < (tx l).size):(tx l)[n]=c:=by
 have h2:=(List.getElem?_eq_some_iff.1 h).2
 rw [←h2]
 simp [tx,ByteArray.getElem_eq_getElem_data]
theorem Af5 (l:List UInt8) (n:Nat):(tx l).extract n (tx l).size=tx (l.drop n):=by
 have:=Af4 (tx l) n
 rw [Ap] at this
 exact this.symm
theorem Anz (l:List UInt8) (n:Nat):(tx l).extract 0 n=tx (l.take n):=by
 have:=An0 (tx l) n
 rw [Ap] at this
 exact this.symm
def Di (S:List UInt8) (ev ok:Value) (w:World) (e:Ending) (w':World):Prop:=
 (∃ v,e= .returned (.tuple #[v,if (Co S).isSome=true then ok else ev])∧Own 2 Bt 202 w' w.heap.size v ((Co S).getD []))∧Below w.heap.size w w'
theorem Di.bad {S:List UInt8} {ev ok:Value} {w w':World} (h:Co S=none) (hb:Below w.heap.size w w'):Di S ev ok w (.returned (.tuple #[.slice none 0 0,ev])) w':=by
 unfold Di
 rw [h]
 exact⟨⟨_,rfl,Own.nil⟩,hb⟩
theorem Di.Ap7 {S:List UInt8} {ev ok v:Value} {w w':World} {l:List Pr} (h:Co S=some l) (ho:Own 2 Bt 202 w' w.heap.size v l) (hb:Below w.heap.size w w'):Di S ev ok w (.returned (.tuple #[v,ok])) w':=by
 unfold Di
 rw [h]
 exact⟨⟨v,rfl,ho⟩,hb⟩
set_option maxRecDepth 100000 in
set_option maxHeartbeats 2000000 in
theorem Ags (s:ByteArray) (w:World) (hg:GW w) (hs:s.size≤10000000):
 Calls Tryz.prog 115 #[.string s] w (Di s.data.toList (Du 4) .nilIface w):=by
 obtain⟨i0,hi,hz0,hz1,hz2⟩:=info_parts Ks
 have HG:=Aa hg
 clear hg
 have hsl:=Fw s
 obtain⟨S,hS⟩:∃ S,s.data.toList=S:=⟨_,rfl⟩
 obtain rfl:s=tx S:=by rw [←hS,P2]
 rw [Ap]
 rw [Ap] at hsl
 clear hS
 go_enter Tryz.func115,Tryz.ntmps115
 go_wp2
 go_loopw [0,4] (fun sv v wr=> ∃ (r:List UInt8) (acc:List Pr),sv= .string (tx r)∧r.length+acc.length≤S.length∧Hid (Co S=(Co r).map (acc++·))∧Own 2 Bt 202 wr w.heap.size v acc∧Below w.heap.size w wr) (fun sv _ _=> Ale sv)
 case atStart=> exact⟨S, [],rfl,by simp,by show _=_;cases Co S <;> simp,Own.nil,Below.refl _ _⟩
 case round=>
  obtain⟨r,acc,rfl,hlen,HP,hown,hnx⟩:=hrel
  by_cases hr:r= []
  ·subst hr
   have HE:=Aa (Aia HP.out)
   have e1:(tx ([]:List UInt8)).toList.isEmpty=true:=by rw [tl];rfl
   have e2:(tx ([]:List UInt8)).toList= []:=by rw [tl];rfl
   obtain⟨⟨ao,cap,rfl⟩,_⟩:=id hown
   have HO:=Aa hown
   clear HP hown
   go_wp2
   go_ret2
   exact Di.Ap7 HE.out HO.out hnx
  ·have e1:(tx r).toList.isEmpty=false:=by
    rw [tl,Ap];cases r with
    | nil=> exact(hr rfl).elim
    | cons a t=> rfl
   have hrl:1≤r.length:=List.length_pos_iff.2 hr
   have HN:=Aa (On (tx r) 58 wr (HG.out.later hnx (Nat.le_refl _)) (by rw [Am];omega))
   rw [Ap] at HN
   have hcl:=(Km 58 r).1
   have hst:=Apw r
   generalize hq:cutAt 58 r=q at *
   obtain⟨A,R,o⟩:=q
   have HQ:=Aa hq
   clear hq
   have HNX:=Aa hnx
   have hws:=hnx.size
   have HO:=Aa hown
   obtain⟨⟨ao,cap,rfl⟩,_⟩:=id hown
   clear hnx hown
   have hRl:R.length≤10000000:=by simp only at hcl;omega
   have hTR:(tx R).size=R.length:=Am R
   rcases hst with ⟨h,e⟩ | ⟨h,hn,e⟩ | ⟨h,n,hn,hl,e⟩ | ⟨h,n,hn,hl,c,hc,h32,e⟩ | ⟨h,n,hn,hl,hc,h2,e⟩ | ⟨h,n,hn,hl,hc,h2,e⟩
   ·rw [HQ.out] at h
    dsimp only at HN h
    rw [h] at HN
    have HE:=Aa (Ky HP.out e hr)
    clear HP e h hcl hTR
    go_wp2_with fail
    refine HN.out.mono ?_
    rintro e w1 ⟨rfl,b1⟩
    have HB:=Aa (HNX.out.trans (b1.mono hws))
    clear b1 HN
    go_wp2
    go_ret2
    exact Di.bad HE.out HB.out
   ·rw [HQ.out] at h hn
    dsimp only at HN h hn
    rw [h] at HN
    have HE:=Aa (Ky HP.out e hr)
    generalize Ci A=nv at *
    have g1:decide (nv < 0)=true:=by simpa using hn
    clear HP e h hcl hn hTR
    go_wp2_with fail
    refine HN.out.mono ?_
    rintro e w1 ⟨rfl,b1⟩
    have HB:=Aa (HNX.out.trans (b1.mono hws))
    clear b1 HN
    go_wp2
    go_ret2
    exact Di.bad HE.out HB.out
   ·rw [HQ.out] at h hn hl
    dsimp only at HN h hn hl
    rw [h,hn] at HN
    have HE:=Aa (Ky HP.out e hr)
    generalize tx R=T at *
    have g2:T.size≤n:=by omega
    clear HP e h hcl hn hl hTR
    go_wp2_with fail
    refine HN.out.mono ?_
    rintro e w1 ⟨rfl,b1⟩
    have HB:=Aa (HNX.out.trans (b1.mono hws))
    clear b1 HN
    go_wp2
    go_ret2
    exact Di.bad HE.out HB.out
   ·rw [HQ.out] at h hn hl hc
    dsimp only at HN h hn hl hc
    rw [h,hn] at HN
    have HE:=Aa (Ky HP.out e hr)
    have hx:=fun hn=> Aln hc hn
    generalize tx R=T at *
    have g2:n < T.size:=by omega
    have g3:(0:Int)≤(n:Int)∧(n:Int) < (T.size:Int):=by omega
    obtain⟨g3,g4⟩:=g3
    have g5:((T[n].toNat:Int) !=32)=true:=by
     rw [bne_iff_ne];intro e;exact h32 (by rw [←hx g2];exact UInt8.toNat_inj.1 (by show T[n].toNat=32;omega))
    clear HP e h hcl hn hl hx hc h32 hTR
    go_wp2_with fail
    refine HN.out.mono ?_
    rintro e w1 ⟨rfl,b1⟩
    have HB:=Aa (HNX.out.trans (b1.mono hws))
    clear b1 HN
    go_wp2
    go_ret2
    exact Di.bad HE.out HB.out
   ·rw [HQ.out] at h hn hl hc h2
    dsimp only at HN h hn hl hc h2
    rw [h,hn] at HN
    have HE:=Aa (Ky HP.out e hr)
    have hx:=fun hn=> Aln hc hn
    have hD:=Af5 R (n+1)
    generalize tx R=T at *
    have g2:n < T.size:=by omega
    have g3:(0:Int)≤(n:Int)∧(n:Int) < (T.size:Int)∧(n:Int)+1≤(T.size:Int)∧(n:Int)≤10000000∧T.size≤10000000:=by omega
    obtain⟨g3,g4,g6,g7,g8⟩:=g3
    have g5:((T[n].toNat:Int) !=32)=false:=by rw [hx g2];rfl
    have HN2:Hid (∀ w',GW w'→Calls Tryz.prog 153 #[.string (T.extract (n+1) T.size), .string ⟨#[10]⟩] w' fun e w''=> e= .returned (.tuple #[.int .i64 (Ci (cutAt 10 (R.drop (n+1))).1), .string (tx (cutAt 10 (R.drop (n+1))).2.1), .bool false])∧Below w'.heap.size w' w''):=fun w' hg=> by
     have:=On (tx (R.drop (n+1))) 10 w' hg (by rw [Am,List.length_drop];omega)
     rwa [Ap,h2,←hD] at this
    have HGW:=Aa (HG.out.later HNX.out (Nat.le_refl _))
    clear HP e h hcl hn hl hx hc h2 hD hTR
    go_wp2_with fail
    refine HN.out.mono ?_
    rintro e w1 ⟨rfl,b1⟩
    have HB:=Aa (HNX.out.trans (b1.mono hws))
    have HN3:=Aa (HN2.out w1 (HGW.out.later b1 (Nat.le_refl _)))
    clear b1 HN HN2
    go_wp2_with fail
    refine HN3.out.mono ?_
    rintro e w2 ⟨rfl,b2⟩
    have HB2:=Aa (HB.out.trans (b2.mono HB.out.size))
    clear b2 HN3
    go_wp2
    go_ret2
    exact Di.bad HE.out HB2.out
   ·rw [HQ.out] at h hn hl hc h2 e
    dsimp only at HN h hn hl hc h2 e
    rw [h,hn] at HN
    have HE:=Aa (Aec HP.out e)
    have hx:=fun hn=> Aln hc hn
    have hD:=Af5 R (n+1)
    have hT:=Anz R n
    have hcl2:=(Km 10 (R.drop (n+1))).1
    rw [List.length_drop] at hcl2
    generalize tx R=T at *
    have g2:n < T.size:=by omega
    have g3:(0:Int)≤(n:Int)∧(n:Int) < (T.size:Int)∧(n:Int)+1≤(T.size:Int)∧(n:Int)≤10000000∧T.size≤10000000:=by omega
    obtain⟨g3,g4,g6,g7,g8⟩:=g3
    have g5:((T[n].toNat:Int) !=32)=false:=by rw [hx g2];rfl
    have HN2:Hid (∀ w',GW w'→Calls Tryz.prog 153 #[.string (T.extract (n+1) T.size), .string ⟨#[10]⟩] w' fun e w''=> e= .returned (.tuple #[.int .i64 (Ci (cutAt 10 (R.drop (n+1))).1), .string (tx (cutAt 10 (R.drop (n+1))).2.1), .bool true])∧Below w'.heap.size w' w''):=fun w' hg=> by
     have:=On (tx (R.drop (n+1))) 10 w' hg (by rw [Am,List.length_drop];omega)
     rwa [Ap,h2,←hD] at this
    have HGW:=Aa (HG.out.later HNX.out (Nat.le_refl _))
    have HT:=Aa hT
    have hml:(cutAt 10 (R.drop (n+1))).2.1.length+(acc.length+1)≤S.length∧(cutAt 10 (R.drop (n+1))).2.1.length < r.length:=by
     simp only at hcl;omega
    obtain⟨hm1,hm2⟩:=hml
    generalize Ci (cutAt 10 (R.drop (n+1))).1=v at *
    generalize (cutAt 10 (R.drop (n+1))).2.1=M at *
    clear HP e h hcl hcl2 hn hl hx hc h2 hD hT hTR
    go_wp2_with fail
    refine HN.out.mono ?_
    rintro e w1 ⟨rfl,b1⟩
    have HB:=Aa (HNX.out.trans (b1.mono hws))
    have HN3:=Aa (HN2.out w1 (HGW.out.later b1 (Nat.le_refl _)))
    have HO1:=Aa (HO.out.later b1)
    clear b1 HN HN2 HO
    go_wp2_with fail
    refine HN3.out.mono ?_
    rintro e w2 ⟨rfl,b2⟩
    have HB2:=Aa (HB.out.trans (b2.mono HB.out.size))
    have hown2:=HO1.out.later b2
    have hb2:=HB2.out
    have hw2:=HB2.out.size
    clear b2 HN3 HB HO1
    go_wp2_with (at_builtin;refine Bi Bn _ _ 157 i0 _ rfl rfl Tryz.underlying157 hi hz0 hz1 hz2 rfl (by decide) (by decide) (hown2.alloc _) (hb2.alloc hw2 _) ?c1 ?c2 rfl (T.extract 0 n,v) ⟨w2.heap.size,0,none⟩ 1 rfl (Fc rfl rfl) (Kx _) ?_)
    case c1=> simp;omega
    case c2=> omega
    intro v' w3 hown3 hb3 _ _
    have HO3:=Aa hown3
    have HB3:=Aa hb3
    clear hown3 hb3 hown2 hb2
    go_wp2
    go_roundw
    case rel=> exact⟨M,acc++ [(tx (R.take n),v)],rfl,by simp;omega,HE.out,by rw [←HT.out];exact HO3.out,HB3.out⟩
    case measure=> (simp only [Ale,Am];omega)
end Go.Proofs.YtbibeionenjmfaaGreatDoor
namespace Go.Proofs.YtbibeionenjmfaaGreatDoor
open Go.RowKit
theorem Aey (k a b:Int) (ha: -9223372036854775808≤a∧a≤9223372036854775807) (hb: -9223372036854775808≤b∧b≤9223372036854775807): -9223372036854775808≤two k a b∧two k a b≤9223372036854775807:=by
 unfold two
 split
 ·omega
 ·split
  ·omega
  ·unfold wrap64;omega
theorem Aj4 (k:Int) (out:List Pr) (p:Pr) (P:Pr→Prop) (h:∀ x∈out,P x) (hp:P p) (h2:∀ q,P q→q.1=p.1→P (q.1,two k q.2 p.2)):∀ x∈Cn k out p,P x:=by
 rcases Gf out with rfl | ⟨S,q,rfl⟩
 ·rw [Ei]
  intro x hx
  obtain rfl:=List.mem_singleton.1 hx
  exact hp
 ·by_cases he:q.1=p.1
  ·rw [Cg he]
   intro x hx
   rcases List.mem_append.1 hx with hx | hx
   ·exact h x (List.mem_append_left _ hx)
   ·obtain rfl:=List.mem_singleton.1 hx
    exact h2 q (h q (by simp)) he
  ·rw [Cp he]
   intro x hx
   rcases List.mem_append.1 hx with hx | hx
   ·exact h x hx
   ·obtain rfl:=List.mem_singleton.1 hx
    exact hp
theorem Oj (k:Int) (P:Pr→Prop) (h2:∀ q p,P q→P p→q.1=p.1→P (q.1,two k q.2 p.2)):∀ (l:List Pr),(∀ x∈l,P x)→∀ x∈Ae k l,P x:=by
 intro l
 induction l using Mx with
 | h0=> intro _ x hx;simp [Ae] at hx
 | hs l p ih=>
   intro h
   rw [Fk]
   exact Aj4 k _ p P (ih fun x hx=> h x (List.mem_append_left _ hx)) (h p (by simp)) fun q hq he=> h2 q p hq (h p (by simp)) he
theorem Nv.Ae {l:List Pr} (h:Nv l) (k:Int):Nv (Ae k l):=
 ⟨Nat.le_trans (D6 k l) h.1,Oj k (fun p=> p.1.size≤100000∧ -9223372036854775808≤p.2∧p.2≤9223372036854775807) (fun q p hq hp _=> ⟨hq.1,Aey k q.2 p.2 hq.2 hp.2⟩) l h.2⟩
theorem Nv.sub {l m:List Pr} (h:Nv l) (hs:m.Sublist l):Nv m:=⟨Nat.le_trans hs.length_le h.1,fun p hp=> h.2 p (hs.subset hp)⟩
structure Hx (w:World) (base g:Nat) (kind:Int) (L:List Pr) (n:Nat) (out:List Pr) (la:Option Addr) (lc:Nat) (va:Value):Prop where
 bk:Bk w g [.int .i64 kind, .slice la L.length lc, .int .i64 n,va]
 lo:base≤g
 sl:Sl 2 Bt w la L
 own:Own 2 Bt 202 w base va out
 apart:va.ownBlock≠some g∧∀ b off,la=some ⟨b,off,none⟩→b≠g∧va.ownBlock≠some b
 O9:n≤L.length
theorem Hx.later {w w':World} {base g:Nat} {kind:Int} {L:List Pr} {n:Nat} {out:List Pr} {la:Option Addr} {lc:Nat} {va:Value} (h:Hx w base g kind L n out la lc va) (hb:Below w.heap.size w w'):Hx w' base g kind L n out la lc va:=
 ⟨h.bk.later hb,h.lo,h.sl.later hb (Nat.le_refl _),h.own.later hb,h.apart,h.O9⟩
theorem Al6 {base g:Nat} {kind:Int} {L:List Pr} {n:Nat} {out:List Pr} {la:Option Addr} {lc:Nat} {va:Value} (w:World) (hg:GT w) (h:Hx w base g kind L n out la lc va) (hok:Nv out):
 Calls Tryz.prog 84 #[.pointer (some ⟨g,0,none⟩)] w fun e w'=> e= .returned (.string (tx (Ct out)))∧Below w.heap.size w w':=by
 obtain⟨oa,oc,rfl⟩:=id h.own.1
 have c3:=h.bk.get (j:=3) rfl
 have HT:=Aa (Ajg oa oc out w hg hok (h.own.sl Bn))
 clear h hok hg
 go_enter Tryz.func84,Tryz.ntmps84
 go_wp2_with fail
 refine HT.out.mono ?_
 rintro e w1 ⟨rfl,b1⟩
 have HB:=Aa b1
 clear b1 HT
 go_wp2
 go_ret
 exact⟨rfl,HB.out⟩
end Go.Proofs.YtbibeionenjmfaaGreatDoor
