/- Lists of texts: the same list; few and short ones. -/
import Derived.Test.YtbibeionenjmfaaGreatDoorZShelf
import Derived.Test.YtbibeionenjmfaaGreatDoorZApp2
import Derived.Test.YtbibeionenjmfaaGreatDoorZPairSum
set_option linter.unusedSimpArgs false
set_option linter.unusedVariables false
namespace Go.Proofs.YtbibeionenjmfaaGreatDoor
open Go.RowKit
def Cm (s:ByteArray):List Value:= [.string s]
theorem Cc (s:ByteArray):(Cm s).length=1:=rfl
theorem Afr:∀ x,∀ u∈Cm x,u.oneCell'=true:=fun x u h=> by simp [Cm] at h;subst h;rfl
theorem Sl.str {w:World} {ao:Option Addr} {l:List ByteArray} (h:Sl 1 Cm w ao l) {k:Nat} (hk:k < l.length):
 ∃ b off x,ao=some ⟨b,off,none⟩∧b < w.heap.size∧l[k]?=some x∧w.cell? ⟨b,off+k,none⟩=some (.string x):=by
 obtain⟨b,off,e,hlt,hc⟩:=h (by omega)
 refine⟨b,off,l[k],e,hlt,by simp [hk],?_⟩
 have:=hc k l[k] 0 _ (by simp [hk]) rfl
 simpa using this
theorem Amq:(Tryz.prog.info? 9).map (fun i=> (i.zero,i.size,i.bytes))=some (some (.string ByteArray.empty),1,16):=by kernel_rfl
def GM (w:World):Prop:=∃ m,w.cell? ⟨0,0,none⟩=some (.int .i64 m)
theorem GM.later {w w':World} {B:Nat} (h:GM w) (hb:Below B w w') (hB:w.heap.size≤B):GM w':=by
 obtain⟨m,hm⟩:=h
 have hlt:=World.block_lt_of_cell? w _ hm
 exact⟨m,by rw [hb.cell (p:=⟨0,0,none⟩) (Nat.lt_of_lt_of_le hlt hB)];exact hm⟩
theorem Ac6 (s sep:ByteArray) (h:1≤sep.size):Lib.countB s sep+1=(Lib.splitB sep 0 (Lib.countB s sep) s).length:=(Lib.splitB_all sep h 0 _ s rfl).symm
theorem Qf (c:UInt8) (s:ByteArray) (w:World) (hg:GM w) (hs:s.size≤1000000):
 Calls Tryz.prog 58 #[.string s, .string (tx [c])] w fun e w'=> e= .returned (.slice (some ⟨w.heap.size,0,none⟩) ((splitAt c s.data.toList).map tx).length ((splitAt c s.data.toList).map tx).length)∧
  w'=w.alloc (.cells (((splitAt c s.data.toList).map tx).map Value.string).toArray 9):=by
 obtain⟨m,hm⟩:=hg
 have h1:1≤(tx [c]).size:=by simp [Am]
 refine(Tryz.strings_Split s (tx [c]) m w (by omega) hm h1).mono ?_
 rintro e w' ⟨rfl,rfl⟩
 rw [Ac6 _ _ h1,Ail]
 exact⟨rfl,rfl⟩
theorem Ad5 (w:World) {cs:Array Value} (t:TypeId) {l:List Value} (h:cs.toList=l):∀ (j:Nat) (u:Value),l[j]?=some u→(w.alloc (.cells cs t)).cell? ((⟨w.heap.size,0,none⟩:Addr).add j)=some u:=by
 intro j u hj
 rw [Acy _ _ _ _ rfl,Nat.zero_add]
 exact(Bk.new (w:=w) (t:=t) h).get hj
def A7 (s:ByteArray):List ByteArray:=((splitAt 32 s.data.toList).map tx).filter fun x=> !x.toList.isEmpty
theorem X9 (s:ByteArray):A7 s=(Rf s.data.toList).map tx:=by
 unfold A7 Rf
 rw [List.filter_map]
 congr 1
 refine List.filter_congr fun x _=> ?_
 show(!(tx x).toList.isEmpty)=_
 rw [tl,Ap]
theorem Qn {α:Type} {p:α→Bool} {l:List α} {k:Nat} {x:α} (h:l[k]?=some x):(l.take (k+1)).filter p=(l.take k).filter p++(if p x then [x] else []):=by
 obtain⟨hlt,hx⟩:=List.getElem?_eq_some_iff.1 h
 rw [List.take_succ_eq_append_getElem hlt,hx,List.filter_append]
 by_cases hp:p x=true <;> simp [hp]
theorem Fw (s:ByteArray):s.data.toList.length=s.size:=Array.length_toList
theorem T3 (l:List ByteArray):l.flatMap Cm=l.map Value.string:=by
 induction l with
 | nil=> rfl
 | cons a l ih=> rw [List.flatMap_cons,ih];rfl
theorem J4 (c:UInt8) (l:List UInt8):(splitAt c l).length≤l.length+1:=by
 induction l with
 | nil=> simp [splitAt]
 | cons b l ih=>
   unfold splitAt
   split
   ·simp;omega
   ·split
    ·rename_i h t e
     rw [e] at ih
     simp at ih ⊢;omega
    ·simp
set_option maxHeartbeats 1000000 in
theorem Agz (s:ByteArray) (w:World) (hg:GM w) (hs:s.size≤1000000):
 Calls Tryz.prog 182 #[.string s] w fun e w'=> ∃ v,e= .returned v∧Own 1 Cm 9 w' w.heap.size v (A7 s)∧Below w.heap.size w w':=by
 obtain⟨ip,hpi,hpz0,hpz1,hpz2⟩:=info_parts Amq
 have HS:=Aa (Qf 32 s w hg hs)
 have hlen:((splitAt 32 s.data.toList).map tx).length≤1000001:=by
  have:=J4 32 s.data.toList
  rw [List.length_map]
  have e:=Fw s
  omega
 have HW:Hid (A7 s=((splitAt 32 s.data.toList).map tx).filter fun x=> !x.toList.isEmpty):=rfl
 generalize (splitAt 32 s.data.toList).map tx=ps at *
 go_enter Tryz.func182,Tryz.ntmps182
 go_wp2_with fail
 refine HS.out.mono ?_
 rintro e w1 ⟨rfl,rfl⟩
 have hsl:Sl 1 Cm (w.alloc (.cells (ps.map Value.string).toArray 9)) (some ⟨w.heap.size,0,none⟩) ps:=Sl.lit Cc (B3 _ _) (T3 ps).symm
 have hb1:Below w.heap.size w (w.alloc (.cells (ps.map Value.string).toArray 9)):=(Below.refl _ _).alloc (Nat.le_refl _) _
 have hlt1:w.heap.size < (w.alloc (.cells (ps.map Value.string).toArray 9)).heap.size:=by simp
 generalize w.alloc (.cells (ps.map Value.string).toArray 9)=w1 at *
 clear HS
 go_wp2
 go_loopw [3,9] (fun v i wr=> ∃ k:Nat,k≤ps.length∧i= .int .i64 k∧Own 1 Cm 9 wr w1.heap.size v ((ps.take k).filter fun x=> !x.toList.isEmpty)∧Below w1.heap.size w1 wr) (fun _ i _=> ps.length - (intOf i).toNat)
 case atStart=> exact⟨0,by omega,rfl,Own.nil,Below.refl _ _⟩
 case round=>
  obtain⟨k,hk,rfl,hown,hbl⟩:=hrel
  by_cases hlt:k < ps.length
  ·obtain⟨b,off,x,e1,hbw,hlk,c0⟩:=(hsl.later hbl (Nat.le_refl _)).str hlt
   cases e1
   rw [Nat.zero_add] at c0
   have hfl:((ps.take k).filter fun x=> !x.toList.isEmpty).length≤k:=by
    have:=List.length_filter_le (fun x:ByteArray=> !x.toList.isEmpty) (ps.take k)
    rw [List.length_take] at this;omega
   have HT:=Aa (Qn (p:=fun x:ByteArray=> !x.toList.isEmpty) hlk)
   clear hlk
   generalize (ps.take k).filter (fun x=> !x.toList.isEmpty)=acc at *
   have f1:(0:Int)≤(k:Int)∧(k:Int) < (ps.length:Int):=by omega
   obtain⟨f1,f2⟩:=f1
   cases hx:x.toList.isEmpty
   ·have HT2:Hid ((ps.take (k+1)).filter (fun x=> !x.toList.isEmpty)=acc++ [x]):=by show _=_;rw [HT.out,hx];rfl
    have hx2:(!x.toList.isEmpty)=true:=by rw [hx];rfl
    clear HT hx
    go_wp2_with (at_builtin;refine Bi Cc _ _ 39 ip _ rfl rfl Tryz.underlying39 hpi hpz0 hpz1 hpz2 rfl (by decide) (by decide) (hown.alloc _) (hbl.alloc hbl.size _) ?c1 ?c2 rfl x ⟨wr.heap.size,0,none⟩ 1 rfl ?c3 ?c4 ?_)
    case c1=> have:=hbl.size;simp;omega
    case c2=> omega
    case c3=> exact Ad5 wr _ rfl
    case c4=> exact Afr x
    intro v' w2 ho hb _ _
    go_wp2
    go_roundw
    case rel=> exact⟨k+1,by omega,by go_num,by rw [HT2.out];exact ho,hb⟩
    case measure=> simp [intOf];omega
   ·have HT2:Hid ((ps.take (k+1)).filter (fun x=> !x.toList.isEmpty)=acc):=by show _=_;rw [HT.out,hx];simp
    have hx3:x.toList= []:=by simpa using hx
    clear HT hx
    go_wp2
    go_roundw
    case rel=> exact⟨k+1,by omega,by go_num,by rw [HT2.out];exact hown,hbl⟩
    case measure=> simp [intOf];omega
  ·obtain rfl:k=ps.length:=by omega
   rw [List.take_length] at hown
   go_wp2
   go_ret
   exact⟨_,rfl,by rw [HW.out];exact hown.B6 (by omega),hb1.trans (hbl.mono (by omega))⟩
end Go.Proofs.YtbibeionenjmfaaGreatDoor
namespace Go.Proofs.YtbibeionenjmfaaGreatDoor
open Go.RowKit
set_option maxRecDepth 100000 in
set_option maxHeartbeats 400000 in
theorem Tg (ao bo:Option Addr) (ca cb:Nat) (l:List ByteArray) (w:World) (hl:l.length≤1000000000) (hs:Sl 1 Cm w ao l) (ht:Sl 1 Cm w bo l):
 Calls Tryz.prog 24 #[.slice ao l.length ca, .slice bo l.length cb] w fun e w'=> e= .returned (.bool true)∧Below w.heap.size w w':=by
 go_enter Tryz.func24,Tryz.ntmps24
 go_wp2
 go_loopw [5] (fun i wr=> ∃ k:Nat,k≤l.length∧i= .int .i64 k∧Below w.heap.size w wr) (fun i _=> l.length - (intOf i).toNat)
 case atStart=> exact⟨0,by omega,rfl,Below.refl _ _⟩
 case round=>
  obtain⟨k,hk,rfl,hnx⟩:=hrel
  by_cases hlt:k < l.length
  ·obtain⟨b,off,x,rfl,hbw,hlk,c0⟩:=(hs.later hnx (Nat.le_refl _)).str hlt
   obtain⟨b2,off2,x2,rfl,hbw2,hlk2,d0⟩:=(ht.later hnx (Nat.le_refl _)).str hlt
   rw [hlk] at hlk2;cases hlk2;clear hlk
   have f1:(0:Int)≤(k:Int)∧(k:Int) < (l.length:Int):=by omega
   obtain⟨f1,f2⟩:=f1
   go_wp2
   go_quiet (fail)
   go_wp2
   go_roundw
   case rel=> exact⟨k+1,by omega,by go_num,below_drewN hnx _⟩
   case measure=> (simp [intOf];try omega)
  ·go_wp2
   go_ret
   exact⟨rfl,hnx⟩
end Go.Proofs.YtbibeionenjmfaaGreatDoor
